/- The pure part of the law FnDb, second half: what the program computes answers as the statement says, for every input. -/
import Derived.Test.YtalmhjlcjcnidaaGreatEvPureAFnDb
set_option linter.all false
namespace Go.Proofs.YtalmhjlcjcnidaaGreat.Ev
open Go
theorem F1e (w:ByteArray):tyI w=tyS w∨(¬(1≤tyI w∧tyI w≤3)∧¬(1≤tyS w∧tyS w≤3)):=by
 unfold tyI tyS idx
 simp only[D5o,idxFrom,List.getD,zG]
 simp only[List.getElem?_cons_zero,List.getElem?_cons_succ,Option.getD_some]
 by_cases h0:w=(⟨#[]⟩:ByteArray)
 ·subst h0;decide
 ·by_cases h1:w=(⟨#[98,111,111,108]⟩:ByteArray)
  ·subst h1;decide
  ·by_cases h2:w=(⟨#[105,110,116]⟩:ByteArray)
   ·subst h2;decide
   ·by_cases h3:w=(⟨#[116,101,120,116]⟩:ByteArray)
    ·subst h3;decide
    ·simp[h0,h1,h2,h3]
theorem D5u (ws:List ByteArray):C2o tyI ws=C2o tyS ws∨(B3n (C2o tyI ws)=false∧B3n (C2o tyS ws)=false):=by
 unfold C2o
 by_cases h:ws.length<2
 ·left;simp[h]
 ·simp only[if_neg h]
  rcases F1e (ws.getD 1 E0)with e|⟨e1,e2⟩
  ·left;rw[e]
  ·right
   constructor
   ·simp only[B3n,zK e1,Bool.and_false,Bool.false_and]
   ·simp only[B3n,zK e2,Bool.and_false,Bool.false_and]
theorem E3p (s:ByteArray)(c:Int):∀(t:List UInt8) (k f:Nat) (acc:List ByteArray),(∀x∈acc,x.size≤s.size)→∀x∈C9p s c t k f acc,x.size≤s.size
 |[],k,f,acc,ha,x,hx=>by
  rcases zY.mp hx with hx|hx
  ·exact ha x hx
  ·simp at hx;subst hx;simp only[ByteArray.size_extract];omega
 |b::t,k,f,acc,ha,x,hx=>by
  simp only[C9p]at hx
  split at hx
  ·refine E3p s c t _ _ _ (fun x hx=>?_) x hx
   rcases zY.mp hx with hx|hx
   ·exact ha x hx
   ·simp at hx;subst hx;simp only[ByteArray.size_extract];omega
  ·exact E3p s c t _ _ _ ha x hx
theorem E9w {s:ByteArray}{c:Int}{w:ByteArray}(h:w∈B33 s c):w.size≤s.size:=E3p s c _ 0 0 [] (by simp) w h
def C6v (ws:List ByteArray):Prop:=ws.length≤1048577∧∀w∈ws,w.size≤1048576
theorem C6v.sm {ws:List ByteArray}(h:C6v ws):B80 1048577 ws:=⟨h.1,fun w hw=>by have:=h.2 w hw;omega⟩
theorem C3q {s:ByteArray}(c:Int)(hs:s.size≤1048576):C6v (B33 s c):=⟨(E9x c hs).1,fun w hw=>by have:=E9w hw;omega⟩
theorem C6v.get {ws:List ByteArray}(h:C6v ws)(i:Nat):(ws.getD i E0).size≤1048576:=by
 by_cases hi:i<ws.length
 ·rw[getD_at hi];exact h.2 _ (zL hi)
 ·have:ws.getD i E0=E0:=by simp[List.getD,List.getElem?_eq_none (show ws.length≤i by omega)]
  rw[this];decide
theorem C6v.drop {ws:List ByteArray}(h:C6v ws)(i:Nat):C6v (ws.drop i):=⟨by have:=h.1;simp;omega,fun w hw=>h.2 w (List.mem_of_mem_drop hw)⟩
theorem C6v.take {ws:List ByteArray}(h:C6v ws)(i:Nat):C6v (ws.take i):=⟨by have:=h.1;simp;omega,fun w hw=>h.2 w (List.mem_of_mem_take hw)⟩
theorem E78 {ty:ByteArray→Int}{ws:List ByteArray}(h:C6v ws):B6u 1048576 (C2o ty ws):=by
 unfold C2o
 split
 ·unfold B6u B5i;decide
 ·exact⟨h.get 0,E8m (h.drop 2).sm.2⟩
def D40:ByteArray:=⟨#[40]⟩
def C1g:ByteArray:=⟨#[41]⟩
def pc (x:ByteArray):Bool:=decide (x=C1g)
noncomputable def crt (ty:ByteArray→Int):Nat→List ByteArray→B2x→B2x×List ByteArray
 |0,_,cols=>(cols,[])
 |f+1,ws,cols=>if ws.length=0 then(cols,[])else if ws.getD 0 E0=D40 then(if idx pc ws<0 then(cols,[])else crt ty f (ws.drop ((idx pc ws).toNat+1)) (cols++[C2o ty ((ws.take (idx pc ws).toNat).drop 1)]))else(cols,ws.drop 1)
theorem C4h {α:Type}(p:α→Bool):∀(t:List α) (k:Nat),(idxFrom p t k= -1∧idxFrom p t 0= -1)∨∃m:Nat,m<t.length∧idxFrom p t 0=(m:Int)∧idxFrom p t k=((k+m:Nat):Int)
 |[],k=> .inl ⟨rfl,rfl⟩
 |x::t,k=>by
  simp only[idxFrom]
  by_cases h:p x=true
  ·right;exact⟨0,by simp,by simp[h],by simp[h]⟩
  ·simp only[if_neg h]
   rcases C4h p t (k+1)with⟨a,_⟩|⟨m,a,b,c⟩
   ·left
    refine⟨a,?_⟩
    rcases C4h p t 1 with⟨d,_⟩|⟨m,d,e,_⟩
    ·exact d
    ·rcases C4h p t (k+1)with⟨_,g⟩|⟨m',_,_,g⟩
     ·rw[e]at g;omega
     ·rw[a]at g;omega
   ·right
    refine⟨m+1,by simp;omega,?_,by rw[c];omega⟩
    rcases C4h p t 1 with⟨_,d⟩|⟨m',_,d,e⟩
    ·rw[b]at d;omega
    ·rw[b]at d;rw[e];omega
theorem D60 {α:Type}{p:α→Bool}{x:α}{t:List α}(h:p x=false):idx p (x::t)=idxFrom p t 1:=by simp[idx,idxFrom,h]
theorem F12 {n:Nat}(h:n≤2097154):room n 64=true:=by simp[room];omega
theorem F11 {n:Nat}(h:n≤2097154):room n 32=true:=by simp[room];omega
theorem E8a (ty:ByteArray→Int):∀(f g:Nat) (ws:List ByteArray) (cols:B2x),ws.length<f→ws.length<g→crt ty f ws cols=crt ty g ws cols:=by
 intro f
 induction f with
 |zero=>intro g ws cols h;omega
 |succ f ih=>
  intro g ws cols h1 h2
  obtain⟨g,rfl⟩:∃g',g=g'+1:=⟨g - 1,by omega⟩
  simp only[crt]
  split
  ·rfl
  ·split
   ·split
    ·rfl
    ·exact ih g _ _ (by simp;omega) (by simp;omega)
   ·rfl
noncomputable def C2p (ty:ByteArray→Int)(ws:List ByteArray):B2x×List ByteArray:=crt ty (ws.length+1) ws []
theorem D56:EV fun n=>∀(k:Int) (tb nm to:ByteArray) (ws:List ByteArray),C6v ws→C36 n k tb [] [] nm to ws=some ((k,(tb,((C2p tyI ws).1,((C2p tyI ws).2,(nm,to))))),()):=(D10.and (C5a.and (EV.gt 1048580))).up fun n ⟨hC,hT,hn⟩ k tb nm to ws hw=>by
 have hI:∀l:List ByteArray,l.length≤1048577→B2k n l C1g=some (idx pc l):=by
  intro l hl
  obtain⟨m,rfl⟩:∃m,n=m+1:=⟨n - 1,by omega⟩
  rw[B2k]
  refine B77 pc l (fun j k=>B2c m j l C1g (l.length:Int) (k:Int)) (fun j=>by simp only[B2c,B27,zP,zH,zA]) (fun j k hk=>?_) l m 0 rfl (by omega) (by omega)
  simp only[B2c,B27,zD hk,B25 hk,zE,getD_at hk,zB,B28 hk (by omega),B3i,pc]
  rw[B76]
  by_cases h:l[k]=C1g
  ·simp[h]
  ·simp[h,show¬(C1g=l[k])from fun e=>h e.symm]
 have loop:∀(j:Nat) (ws:List ByteArray) (cols:B2x),C6v ws→ws.length<j→cols.length+ws.length≤1048577→
   B8g n j ws k tb nm to cols []=some ((k,(tb,((crt tyI j ws cols).1,((crt tyI j ws cols).2,(nm,to))))),()):=by
  intro j
  induction j with
  |zero=>intro ws cols _ h;omega
  |succ j ih=>
   intro ws cols hw h1 h2
   rw[B8g]
   simp only[crt]
   by_cases h0:ws.length=0
   ·have e0:decide ((0:Int)<(ws.length:Int))=false:=zK (by omega)
    simp only[h0,show decide ((0:Int)<((0:Nat):Int))=false from rfl,zA,if_true]
   ·have e0:decide ((0:Int)<(ws.length:Int))=true:=zD (by omega)
    have e1:inR (0:Int) ws.length=true:=B25 (k:=0) (by omega)
    simp only[e0,e1,zB,if_neg h0,B3i,show(⟨#[40]⟩:ByteArray)=D40 from rfl,show(⟨#[41]⟩:ByteArray)=C1g from rfl,show(⟨#[]⟩:ByteArray)=E0 from rfl,show(0:Int).toNat=0 from rfl,show(1:Int).toNat=1 from rfl]
    by_cases ho:ws.getD 0 E0=D40
    ·simp only[ho,zI,zB,if_true,hI ws (by omega),zC]
     obtain⟨g1,g2⟩:=C2r pc ws
     by_cases hc:idx pc ws<0
     ·simp only[hc,zI,zB,if_true]
     ·have hpos:1≤idx pc ws:=by
       rcases Nat.eq_zero_or_pos (idx pc ws).toNat with z|z
       ·exfalso
        cases ws with
        |nil=>simp at h0
        |cons w t=>
         have hp:pc w=false:=by
          simp only[List.getD_cons_zero]at ho
          rw[ho];decide
         rw[D60 hp]at hc z
         rcases C4h pc t 1 with⟨d,_⟩|⟨m,_,_,d⟩
         ·rw[d]at hc;omega
         ·rw[d]at z;omega
       ·omega
      obtain⟨e,he⟩:=Int.eq_ofNat_of_zero_le (show 0≤idx pc ws by omega)
      rw[he]at hc hpos g2⊢
      have q1:decide ((e:Int)<0)=false:=zK (by omega)
      have q2:decide (0≤(1:Int)∧(1:Int)≤(e:Int)∧(e:Int)≤(ws.length:Int))=true:=zD ⟨by omega,by omega,by omega⟩
      have q3:IntKind.wrap .i64 ((e:Int)+(1:Int))=((e+1:Nat):Int):=B28 (Nat.lt_succ_self e) (by omega)
      have q4:decide (0≤((e+1:Nat):Int)∧((e+1:Nat):Int)≤((ws.length:Nat):Int)∧((ws.length:Nat):Int)≤(ws.length:Int))=true:=zD ⟨by omega,by omega,by omega⟩
      have q5:((cols.length+[C2o tyI ((ws.take e).drop 1)].length:Nat))≤2097154:=by simp;omega
      have hs':C6v ((ws.take e).drop 1):=(hw.take e).drop 1
      simp only[q1,q2,q3,q4,zB,zA,if_neg hc,zE,hC _ hs'.sm,zC,List.take_length]
      rw[show room (cols.length+[((C2o tyI ((ws.take e).drop 1)).1,((C2o tyI ((ws.take e).drop 1)).2.1,((C2o tyI ((ws.take e).drop 1)).2.2.1,((C2o tyI ((ws.take e).drop 1)).2.2.2.1,((C2o tyI ((ws.take e).drop 1)).2.2.2.2.1,((C2o tyI ((ws.take e).drop 1)).2.2.2.2.2.1,(C2o tyI ((ws.take e).drop 1)).2.2.2.2.2.2))))))].length) 64=true from F12 q5,zB]
      exact ih (ws.drop (e+1)) _ (hw.drop _) (by simp;omega) (by simp;omega)
    ·have q2:decide (0≤(1:Int)∧(1:Int)≤((ws.length:Nat):Int)∧((ws.length:Nat):Int)≤(ws.length:Int))=true:=zD ⟨by omega,by omega,by omega⟩
     simp only[ho,zH,zA,if_false,q2,zB,zE,List.take_length,hT (ws.drop 1) (by have:=hw.1;simp;omega),zC]
 rw[C36]
 have:=loop n ws [] hw (by have:=hw.1;omega) (by have:=hw.1;simpa using this)
 simp only[C2p]
 rw[←E8a tyI n (ws.length+1) ws [] (by have:=hw.1;omega) (by omega)]
 exact this
def E6b (l:B2x):Prop:=∃c∈l,B3n c=false
theorem E6k (ws:List ByteArray):(C2p tyI ws).2=(C2p tyS ws).2∧((C2p tyI ws).1=(C2p tyS ws).1∨(E6b (C2p tyI ws).1∧E6b (C2p tyS ws).1)):=by
 have key:∀(f:Nat) (ws:List ByteArray) (a b:B2x),(a=b∨(E6b a∧E6b b))→(crt tyI f ws a).2=(crt tyS f ws b).2∧((crt tyI f ws a).1=(crt tyS f ws b).1∨(E6b (crt tyI f ws a).1∧E6b (crt tyS f ws b).1)):=by
  intro f
  induction f with
  |zero=>intro ws a b h;exact⟨rfl,h⟩
  |succ f ih=>
   intro ws a b h
   simp only[crt]
   split
   ·exact⟨rfl,h⟩
   ·split
    ·split
     ·exact⟨rfl,h⟩
     ·refine ih _ _ _ ?_
      rcases h with rfl|⟨⟨c,hc,hb⟩,⟨d,hd,hb2⟩⟩
      ·rcases D5u ((ws.take (idx pc ws).toNat).drop 1)with e|⟨e1,e2⟩
       ·left;rw[e]
       ·right;exact⟨⟨_,zA1 _ (zF1.mpr rfl),e1⟩,⟨_,zA1 _ (zF1.mpr rfl),e2⟩⟩
      ·right;exact⟨⟨c,zZ _ hc,hb⟩,⟨d,zZ _ hd,hb2⟩⟩
    ·exact⟨rfl,h⟩
 exact key _ ws [] [] (.inl rfl)
theorem F0r {ty:ByteArray→Int}{ws:List ByteArray}(h:C6v ws)(hl:ws.length≤1048575):D3p 1048576 (C2p ty ws).1∧B80 1048576 (C2p ty ws).2:=by
 have key:∀(f:Nat) (ws:List ByteArray) (a:B2x),C6v ws→(∀c∈a,B6u 1048576 c)→a.length+ws.length≤1048576→D3p 1048576 (crt ty f ws a).1∧B80 1048576 (crt ty f ws a).2:=by
  intro f
  induction f with
  |zero=>intro ws a hw ha hl;exact⟨⟨by simp[crt];omega,ha⟩,⟨by simp[crt],by simp[crt]⟩⟩
  |succ f ih=>
   intro ws a hw ha hl
   have nil:B80 1048576 []:=⟨by simp,by simp⟩
   simp only[crt]
   split
   ·exact⟨⟨by simp;omega,ha⟩,nil⟩
   ·split
    ·split
     ·exact⟨⟨by simp;omega,ha⟩,nil⟩
     ·refine ih _ _ (hw.drop _) (fun c hc=>?_) (by simp;omega)
      rcases zY.mp hc with hc|hc
      ·exact ha c hc
      ·rw[zF1.mp hc];exact E78 ((hw.take _).drop 1)
    ·exact⟨⟨by simp;omega,ha⟩,⟨by simp;omega,fun w hw'=>hw.2 w (List.mem_of_mem_drop hw')⟩⟩
 exact key _ ws [] h (by simp) (by simp;omega)
def fin (d:B3r)(s:ByteArray):B3r×(Bool×Unit):=if B2u d=s then(d,(true,()))else(B4o,(false,()))
theorem D3d (d:B3r)(s:ByteArray):(bif !(decide (B2u d=s))then some (B4o,(false,()))else some (d,(true,())))=some (fin d s):=by
 unfold fin
 by_cases h:B2u d=s<;>simp[h]
theorem D7j {d:B3r}{s:ByteArray}(h:B2u d≠s):fin d s=(B4o,(false,())):=by simp[fin,h]
def C17:ByteArray:=⟨#[99,114,101,97,116,101]⟩
def D3t:ByteArray:=⟨#[100,114,111,112]⟩
def E44:ByteArray:=⟨#[97,100,100]⟩
def E1l:ByteArray:=⟨#[111,117,116]⟩
def C93:ByteArray:=⟨#[110,97,109,101]⟩
noncomputable def B93 (s:ByteArray):B3r×(Bool×Unit):=if(B33 s 32).length<2 then(B4o,(false,()))else
 if(B33 s 32).getD 0 E0=C17 then fin (1,((B33 s 32).getD 1 E0,((C2p tyS ((B33 s 32).drop 2)).1,((C2p tyS ((B33 s 32).drop 2)).2,(E0,E0))))) s else
 if(B33 s 32).getD 0 E0=D3t then fin (2,((B33 s 32).getD 1 E0,([],([],(E0,E0))))) s else
 if(B33 s 32).getD 0 E0=E44 then fin (3,((B33 s 32).getD 1 E0,([C2o tyS ((B33 s 32).drop 2)],([],(E0,E0))))) s else
 if(B33 s 32).getD 0 E0=E1l∧(B33 s 32).length=3 then fin (4,((B33 s 32).getD 1 E0,([],([],((B33 s 32).getD 2 E0,E0))))) s else
 if(B33 s 32).getD 0 E0=C93∧(B33 s 32).length=4 then fin (5,((B33 s 32).getD 1 E0,([],([],((B33 s 32).getD 2 E0,(B33 s 32).getD 3 E0))))) s else(B4o,(false,()))
def E75 (l:List ByteArray):Nat:=(l.map fun w=>w.size+1).sum
theorem D8g (s:ByteArray)(c:Int):∀(t:List UInt8) (k f:Nat) (acc:List ByteArray),k+t.length=s.size→f≤k→E75 (C9p s c t k f acc)=E75 acc+(s.size - f+1)
 |[],k,f,acc,h,hf=>by
  simp at h;subst h
  simp[C9p,E75,ByteArray.size_extract]
 |b::t,k,f,acc,h,hf=>by
  simp only[C9p]
  simp only[zW]at h
  split
  ·rw[D8g s c t _ _ _ (by omega) (by omega)]
   simp[E75,ByteArray.size_extract];omega
  ·exact D8g s c t _ _ _ (by omega) (by omega)
theorem E86 (s:ByteArray)(c:Int):E75 (B33 s c)=s.size+1:=by
 rw[B33,D8g s c _ 0 0 [] (by rw[B3y];omega) (by omega)]
 simp[E75]
theorem E8c {s:ByteArray}{c:Int}(h:¬(B33 s c).length<2):s≠E0:=by
 intro e
 have h1:=E86 s c
 have h2:s.size=0:=by rw[e];rfl
 generalize B33 s c=w at h h1
 cases w with
 |nil=>simp at h
 |cons a w=>
  cases w with
  |nil=>simp at h
  |cons b w=>simp[E75]at h1;omega
theorem C3d {d:B3r}{s:ByteArray}(hs:s≠E0)(h:B49 d=false):B2u d≠s:=by
 simp only[B2u,h];exact fun e=>hs e.symm
theorem E8b {s:ByteArray}(hs:s≠E0)(tb:ByteArray)(ws:List ByteArray):fin (1,(tb,((C2p tyI ws).1,((C2p tyI ws).2,(E0,E0))))) s=fin (1,(tb,((C2p tyS ws).1,((C2p tyS ws).2,(E0,E0))))) s:=by
 obtain⟨e2,e1|⟨b1,b2⟩⟩:=E6k ws
 ·rw[e1,e2]
 ·have bad:∀(cs:B2x) (ks:List ByteArray),E6b cs→B49 (1,(tb,(cs,(ks,(E0,E0)))))=false:=by
   intro cs ks ⟨c,hc,hb⟩
   cases h:B2g (tb,(cs,ks))with
   |false=>simp[B49,h]
   |true=>
    have:=B7r h c hc
    rw[hb]at this;cases this
  rw[D7j (C3d hs (bad _ _ b1)),D7j (C3d hs (bad _ _ b2))]
theorem E80 {s:ByteArray}(hs:s≠E0)(tb:ByteArray)(ws:List ByteArray):fin (3,(tb,([C2o tyI ws],([],(E0,E0))))) s=fin (3,(tb,([C2o tyS ws],([],(E0,E0))))) s:=by
 rcases D5u ws with e|⟨b1,b2⟩
 ·rw[e]
 ·rw[D7j (C3d hs (by simp[B49,b1])),D7j (C3d hs (by simp[B49,b2]))]

theorem C9g (w:List ByteArray):(w.drop 2).take (((w.length:Nat):Int).toNat - 2)=w.drop 2:=by
 rw[List.take_of_length_le]
 simp
theorem D6p:EV fun n=>∀s:ByteArray,s.size≤1048576→C44 n s=some (B93 s):=(D0z.and (D56.and (D10.and C3w))).up fun n ⟨h1,h2,h3,hD⟩ s hs=>by
 have hw:=C3q 32 hs
 have hne:=@E8c s 32
 have ht:=fun hs=>E8b (s:=s) hs ((B33 s 32).getD 1 E0) ((B33 s 32).drop 2)
 have ha:=fun hs=>E80 (s:=s) hs ((B33 s 32).getD 1 E0) ((B33 s 32).drop 2)
 simp only[C44,h1 s hs,zC,B93]
 generalize B33 s 32=w at hw hne ht ha⊢
 by_cases hl:w.length<2
 ·have e0:decide ((w.length:Int)<(2:Int))=true:=zD (by omega)
  simp only[e0,zB,if_pos hl];rfl
 ·have hs0:=hne hl
  have hl1:=hw.1
  have ht:=ht hs0
  have ha:=ha hs0
  have e0:decide ((w.length:Int)<(2:Int))=false:=zK (by omega)
  have e1:inR (0:Int) w.length=true:=B25 (k:=0) (by omega)
  have e2:inR (1:Int) w.length=true:=B25 (k:=1) (by omega)
  have e3:decide (0≤(2:Int)∧(2:Int)≤((w.length:Nat):Int)∧((w.length:Nat):Int)≤(w.length:Int))=true:=zD ⟨by omega,by omega,by omega⟩
  have z0:E0.size≤1048576:=by decide
  have zc:D3p 1048576 []:=⟨by simp,by simp⟩
  have zs:B80 1048576 []:=⟨by simp,by simp⟩
  have d2:=hw.drop 2
  obtain⟨m1,m2⟩:=F0r (ty:=tyI) d2 (by simp;omega)
  have D0:B38 n 0 (w.getD 1 E0) [] [] E0 E0=some (B2u (0,(w.getD 1 E0,([],([],(E0,E0)))))):=hD (0,(w.getD 1 E0,([],([],(E0,E0))))) ⟨hw.get 1,zc,zs,z0,z0⟩
  have D1:B38 n 1 (w.getD 1 E0) (C2p tyI (w.drop 2)).1 (C2p tyI (w.drop 2)).2 E0 E0=some (B2u (1,(w.getD 1 E0,((C2p tyI (w.drop 2)).1,((C2p tyI (w.drop 2)).2,(E0,E0)))))):=hD (1,(w.getD 1 E0,((C2p tyI (w.drop 2)).1,((C2p tyI (w.drop 2)).2,(E0,E0))))) ⟨hw.get 1,m1,m2,z0,z0⟩
  have D2:B38 n 2 (w.getD 1 E0) [] [] E0 E0=some (B2u (2,(w.getD 1 E0,([],([],(E0,E0)))))):=hD (2,(w.getD 1 E0,([],([],(E0,E0))))) ⟨hw.get 1,zc,zs,z0,z0⟩
  have D3:B38 n 3 (w.getD 1 E0) [C2o tyI (w.drop 2)] [] E0 E0=some (B2u (3,(w.getD 1 E0,([C2o tyI (w.drop 2)],([],(E0,E0)))))):=hD (3,(w.getD 1 E0,([C2o tyI (w.drop 2)],([],(E0,E0))))) ⟨hw.get 1,⟨by simp,fun c hc=>by rw[zF1.mp hc];exact E78 d2⟩,zs,z0,z0⟩
  have D4:B38 n 4 (w.getD 1 E0) [] [] (w.getD 2 E0) E0=some (B2u (4,(w.getD 1 E0,([],([],(w.getD 2 E0,E0)))))):=hD (4,(w.getD 1 E0,([],([],(w.getD 2 E0,E0))))) ⟨hw.get 1,zc,zs,hw.get 2,z0⟩
  have D5:B38 n 5 (w.getD 1 E0) [] [] (w.getD 2 E0) (w.getD 3 E0)=some (B2u (5,(w.getD 1 E0,([],([],(w.getD 2 E0,w.getD 3 E0)))))):=hD (5,(w.getD 1 E0,([],([],(w.getD 2 E0,w.getD 3 E0))))) ⟨hw.get 1,zc,zs,hw.get 2,hw.get 3⟩
  have C1:=h2 1 (w.getD 1 E0) E0 E0 (w.drop 2) d2
  have C3:=h3 (w.drop 2) d2.sm
  have bad0:B2u (0,(w.getD 1 E0,([],([],(E0,E0)))))≠s:=C3d hs0 (by simp[B49])
  simp only[e0,e1,e2,e3,zB,zA,if_neg hl,B3i,C9g,B39,show(0:Int).toNat=0 from rfl,show(1:Int).toNat=1 from rfl,show(2:Int).toNat=2 from rfl,show(3:Int).toNat=3 from rfl,show(⟨#[]⟩:ByteArray)=E0 from rfl,
   show(⟨#[99,114,101,97,116,101]⟩:ByteArray)=C17 from rfl,show(⟨#[100,114,111,112]⟩:ByteArray)=D3t from rfl,show(⟨#[97,100,100]⟩:ByteArray)=E44 from rfl,show(⟨#[111,117,116]⟩:ByteArray)=E1l from rfl,show(⟨#[110,97,109,101]⟩:ByteArray)=C93 from rfl]
  by_cases c1:w.getD 0 E0=C17
  ·simp only[c1,zI,zB,if_true,C1,zC,D1]
   rw[←ht];exact D3d _ _
  ·simp only[c1,zH,zA,if_false]
   by_cases c2:w.getD 0 E0=D3t
   ·simp only[c2,zI,zB,if_true,zC,D2]
    exact D3d _ _
   ·simp only[c2,zH,zA,if_false]
    by_cases c3:w.getD 0 E0=E44
    ·simp only[c3,zI,zB,if_true,C3,zC]
     rw[←ha]
     refine Eq.trans (congrArg (fun o=>Option.bind o _) D3) ?_
     exact D3d _ _
    ·simp only[c3,zH,zA,if_false]
     have dd0:∀X,(B38 n 0 (w.getD 1 E0) [] [] E0 E0).bind (fun r=>bif !(decide (r=s))then some (B4o,(false,()))else X)=some (B4o,(false,())):=by
      intro X
      simp only[D0,zC,bad0,zH,zU,zB]
     by_cases c4:w.getD 0 E0=E1l
     ·have c5:¬w.getD 0 E0=C93:=by rw[c4];decide
      by_cases l3:w.length=3
      ·have q1:decide ((w.length:Int)=3)=true:=zD (by omega)
       have q2:inR (2:Int) w.length=true:=B25 (k:=2) (by omega)
       simp only[c4,l3,and_self,if_true,zI,zB,zC]
       have q2':inR (2:Int) 3=true:=by decide
       have q1':decide (((3:Nat):Int)=3)=true:=by decide
       simp only[q1',q2',zB,D4,zC]
       exact D3d _ _
      ·have q1:decide ((w.length:Int)=3)=false:=zK (by omega)
       have n4:¬(E1l=C93):=by decide
       simp only[c4,l3,and_false,if_false,zI,zB,q1,zA,n4,false_and,zH]
       exact dd0 _
     ·simp only[c4,zH,zA,if_false,false_and]
      by_cases c5:w.getD 0 E0=C93
      ·by_cases l4:w.length=4
       ·have q1:decide ((w.length:Int)=4)=true:=zD (by omega)
        have q2:inR (2:Int) w.length=true:=B25 (k:=2) (by omega)
        have q3:inR (3:Int) w.length=true:=B25 (k:=3) (by omega)
        simp only[q1,q2,q3,c5,zI,zB,D5,zC]
        rw[if_pos ⟨trivial,l4⟩]
        exact D3d _ _
       ·have q1:decide ((w.length:Int)=4)=false:=zK (by omega)
        simp only[q1,c5,zI,zB,zA,l4,and_false,if_false]
        exact dd0 _
      ·simp only[c5,zH,zA,if_false,false_and]
       exact dd0 _
def B46 {α:Type}(b:List Int)(P:α→Prop)(r:Option (α×(((List Int)×(Int×Int))×Unit))):Prop:=∃x i h,r=some (x,((b,(i,h)),()))∧0≤i∧P x
theorem E83 (a b:Int):0≤IntKind.wrap .i64 ((BitVec.ofInt (IntKind.bits .i64) a&&&BitVec.ofInt (IntKind.bits .i64) (255:Int)).toNat:Int)∧IntKind.wrap .i64 ((BitVec.ofInt (IntKind.bits .i64) a&&&BitVec.ofInt (IntKind.bits .i64) (255:Int)).toNat:Int)≤255:=by
 have h:(BitVec.ofInt (IntKind.bits .i64) a&&&BitVec.ofInt (IntKind.bits .i64) (255:Int)).toNat≤255:=by
  rw[BitVec.toNat_and]
  exact Nat.and_le_right
 rw[wrap64 (by omega) (by omega)]
 omega
theorem E76:EV fun n=>∀(b:List Int) (i h:Int),b.length≤1048576→0≤i→B46 b (fun x:Int=>0≤x∧x≤255) (B6b n b i h):=EV.true.up fun n _ b i h hb hi=>by
 simp only[B6b,show decide (0≤(33:Int))=true from rfl,show decide (0≤(45:Int))=true from rfl,zB]
 by_cases hl:i<b.length
 ·have e1:decide (i<(b.length:Int))=true:=zD hl
  obtain⟨k,rfl⟩:=Int.eq_ofNat_of_zero_le hi
  have e2:inR (k:Int) b.length=true:=B25 (by omega)
  simp only[e1,e2,zB]
  refine⟨_,_,_,rfl,?_,E83 _ 0⟩
  rw[B28 (n:=b.length) (by omega) (by omega)];omega
 ·have e1:decide (i<(b.length:Int))=false:=zK hl
  simp only[e1,zA]
  exact⟨_,_,_,rfl,hi,E83 _ 0⟩
theorem B86:EV fun n=>∀(b:List Int) (i h m:Int),b.length≤1048576→0≤i→m≤4294967296→B46 b (fun x:Int=>(0<m→0≤x∧x<m)∧(m≤0→x=0)) (B2e n b i h m):=E76.up fun n hB b i h m hb hi hm=>by
 rw[B2e]
 by_cases h0:m≤0
 ·simp only[zD h0,zB]
  exact⟨_,_,_,rfl,hi,by omega,by omega⟩
 ·simp only[zK h0,zA]
  have hz:(!decide (m=0))=true:=by simp;omega
  by_cases h1:m≤256
  ·obtain⟨x,i1,g1,e1,p1,q1⟩:=hB b i h hb hi
   simp only[zD h1,zB,e1,zC,hz]
   refine⟨_,_,_,rfl,p1,fun _=>?_,by omega⟩
   rw[Int.tmod_eq_emod_of_nonneg q1.1]
   exact⟨Int.emod_nonneg _ (by omega),Int.emod_lt_of_pos _ (by omega)⟩
  ·obtain⟨x,i1,g1,e1,p1,q1⟩:=hB b i h hb hi
   obtain⟨y,i2,g2,e2,p2,q2⟩:=hB b i1 g1 hb p1
   obtain⟨z,i3,g3,e3,p3,q3⟩:=hB b i2 g2 hb p2
   obtain⟨w,i4,g4,e4,p4,q4⟩:=hB b i3 g3 hb p3
   simp only[zK h1,zA,zB,e1,e2,e3,e4,zC,hz]
   refine⟨_,_,_,rfl,p4,fun _=>?_,by omega⟩
   rw[wrap64 (x:=x*16777216) (by omega) (by omega),wrap64 (x:=y*65536) (by omega) (by omega),wrap64 (x:=z*256) (by omega) (by omega),wrap64 (x:=x*16777216+y*65536) (by omega) (by omega),wrap64 (x:=x*16777216+y*65536+z*256) (by omega) (by omega),wrap64 (x:=x*16777216+y*65536+z*256+w) (by omega) (by omega)]
   rw[Int.tmod_eq_emod_of_nonneg (by omega)]
   exact⟨Int.emod_nonneg _ (by omega),Int.emod_lt_of_pos _ (by omega)⟩
def D8y (x:Int):Prop:= -9223372036854775808≤x∧x≤9223372036854775807
theorem F10:EV fun n=>∀(b:List Int) (i h:Int),b.length≤1048576→0≤i→B46 b D8y (C1q n b i h):=B86.up fun n hB b i h hb hi=>by
 obtain⟨k,i1,g1,e1,p1,q1,_⟩:=hB b i h 9 hb hi (by omega)
 have q1:=q1 (by omega)
 simp only[C1q,e1,zC,B39]
 have one:∀m:Int,0<m→m≤4294967296→∃x i2 g2,B2e n b i1 g1 m=some (x,((b,(i2,g2)),()))∧0≤i2∧0≤x∧x<m:=fun m h0 h1=>by
  obtain⟨x,i2,g2,e2,p2,q2,_⟩:=hB b i1 g1 m hb p1 h1
  exact⟨x,i2,g2,e2,p2,(q2 h0).1,(q2 h0).2⟩
 by_cases c1:k<4
 ·obtain⟨x,i2,g2,e2,p2,q2,r2⟩:=one 24 (by decide) (by decide)
  simp only[zD c1,zB,e2,zC]
  refine⟨_,_,_,rfl,p2,?_⟩
  rw[wrap64 (by omega) (by omega)];unfold D8y;omega
 ·simp only[zK c1,zA]
  by_cases c2:k=4
  ·obtain⟨x,i2,g2,e2,p2,q2,r2⟩:=one 3 (by decide) (by decide)
   simp only[zD c2,zB,e2,zC]
   refine⟨_,_,_,rfl,p2,?_⟩
   rw[wrap64 (by omega) (by omega)];unfold D8y;omega
  ·simp only[zK c2,zA]
   by_cases c3:k=5
   ·obtain⟨x,i2,g2,e2,p2,q2,r2⟩:=one 3 (by decide) (by decide)
    simp only[zD c3,zB,e2,zC]
    refine⟨_,_,_,rfl,p2,?_⟩
    rw[wrap64 (by omega) (by omega)];unfold D8y;omega
   ·simp only[zK c3,zA]
    by_cases c4:k=6
    ·obtain⟨x,i2,g2,e2,p2,q2,r2⟩:=one 2 (by decide) (by decide)
     simp only[zD c4,zB,e2,zC]
     refine⟨_,_,_,rfl,p2,?_⟩
     rw[wrap64 (by omega) (by omega)];unfold D8y;omega
    ·simp only[zK c4,zA]
     by_cases c5:k=7
     ·obtain⟨x,i2,g2,e2,p2,q2,r2⟩:=one 2 (by decide) (by decide)
      simp only[zD c5,zB,e2,zC]
      refine⟨_,_,_,rfl,p2,?_⟩
      rw[wrap64 (by omega) (by omega)];unfold D8y;omega
     ·obtain⟨x,i2,g2,e2,p2,q2,r2⟩:=one 2000000 (by decide) (by decide)
      simp only[zK c5,zA,e2,zC]
      exact⟨_,_,_,rfl,p2,by unfold D8y;omega⟩
theorem F0v:EV fun n=>∀(b:List Int),b.length≤1048576→∃h,C5i n b=some ((b,(0,h)),()):=(EV.gt 1048578).up fun n hn b hb=>by
 rw[C5i]
 have:∀(t:List Int) (j k:Nat) (h:Int),b.drop k=t→k≤b.length→t.length<j→∃g,B8l n j b h (k:Int)=some ((b,(0,g)),()):=by
  intro t
  induction t with
  |nil=>
   intro j k h hd hk hj
   obtain⟨j,rfl⟩:∃j',j=j'+1:=⟨j - 1,by omega⟩
   have:k=b.length:=by have:=congrArg List.length hd;simp at this;omega
   subst this
   simp only[B8l,B27,zP,zH,zA]
   exact⟨_,rfl⟩
  |cons x t ih=>
   intro j k h hd hk hj
   obtain⟨j,rfl⟩:∃j',j=j'+1:=⟨j - 1,by omega⟩
   obtain⟨h2,h3,h4⟩:=B36 hd x
   rw[B8l]
   simp only[B27,zD h2,zB]
   by_cases c:(k:Int)<4000
   ·simp only[zD c,B25 h2,zB,B28 h2 (by omega)]
    exact ih j (k+1) _ h4 (by omega) (by simp at hj;omega)
   ·simp only[zK c,zA]
    exact⟨_,rfl⟩
 exact this b n 0 _ rfl (by omega) (by omega)
theorem E6p:EV fun n=>∀(b:List Int) (i h:Int),b.length≤1048576→0≤i→B46 b (fun s:ByteArray=>s.size≤30) (C5j n b i h):=(E76.and (B86.and (EV.gt 100))).up fun n ⟨hB,hW,hn⟩ b i h hb hi=>by
 obtain⟨k,i1,g1,e1,p1,q1,_⟩:=hW b i h 10 hb hi (by omega)
 have q1:=q1 (by omega)
 obtain⟨k,rfl⟩:=Int.eq_ofNat_of_zero_le q1.1
 simp only[C5j,e1,zC,B39]
 by_cases c1:(k:Int)<7
 ·have hk:k<7:=by omega
  simp only[zD c1,zB,B25 (k:=k) (n:=[(⟨#[]⟩:ByteArray),(⟨#[97]⟩:ByteArray),(⟨#[98]⟩:ByteArray),(⟨#[97,98]⟩:ByteArray),(⟨#[116,114,117,101]⟩:ByteArray),(⟨#[102,97,108,115,101]⟩:ByteArray),(⟨#[49,50]⟩:ByteArray)].length) hk]
  refine⟨_,_,_,rfl,p1,?_⟩
  rw[zE]
  have:∀k:Fin 7,([(⟨#[]⟩:ByteArray),(⟨#[97]⟩:ByteArray),(⟨#[98]⟩:ByteArray),(⟨#[97,98]⟩:ByteArray),(⟨#[116,114,117,101]⟩:ByteArray),(⟨#[102,97,108,115,101]⟩:ByteArray),(⟨#[49,50]⟩:ByteArray)].getD k.val (⟨#[]⟩:ByteArray)).size≤30:=by decide
  exact this ⟨k,hk⟩
 ·simp only[zK c1,zA]
  by_cases c2:(k:Int)=7
  ·simp only[zD c2,zB]
   exact⟨_,_,_,rfl,p1,by decide⟩
  ·simp only[zK c2,zA]
   obtain⟨m,i2,g2,e2,p2,q2,_⟩:=hW b i1 g1 31 hb p1 (by omega)
   have q2:=q2 (by omega)
   obtain⟨m,rfl⟩:=Int.eq_ofNat_of_zero_le q2.1
   simp only[e2,zC]
   have loop:∀(t j x:Nat) (i g:Int) (acc:List Int),x+t=m→t<j→acc.length=x→0≤i→B46 b (fun s:ByteArray=>s.size≤30) (B8m n j (m:Int) (x:Int) b i g acc):=by
    intro t
    induction t with
    |zero=>
     intro j x i g acc hx hj ha hi
     obtain⟨j,rfl⟩:∃j',j=j'+1:=⟨j - 1,by omega⟩
     have:decide ((x:Int)<(m:Int))=false:=zK (by omega)
     simp only[B8m,this,zA]
     exact⟨_,_,_,rfl,hi,show(strOfNums acc).size≤30 by rw[C2u];omega⟩
    |succ t ih=>
     intro j x i g acc hx hj ha hi
     obtain⟨j,rfl⟩:∃j',j=j'+1:=⟨j - 1,by omega⟩
     have e0:decide ((x:Int)<(m:Int))=true:=zD (by omega)
     obtain⟨y,i3,g3,e3,p3,q3⟩:=hB b i g hb hi
     have hr:room (acc.length+[IntKind.wrap .u8 y].length) 1=true:=by simp[room];omega
     simp only[B8m,e0,zB,e3,zC,hr,B28 (show x<m by omega) (by omega)]
     exact ih j (x+1) i3 g3 _ (by omega) (by omega) (by simp;omega) p3
   exact loop m n 0 i2 g2 [] (by omega) (by omega) rfl p2
theorem D4v:EV fun n=>∀(b:List Int) (i h ty:Int),b.length≤1048576→0≤i→B46 b (fun v:B3m=>v.2.2.size≤31) (C1f n b i h ty):=(E6p.and B86).up fun n ⟨hS,hW⟩ b i h ty hb hi=>by
 obtain⟨k,i1,g1,e1,p1,_⟩:=hW b i h 8 hb hi (by omega)
 simp only[C1f,e1,zC,B39]
 by_cases c0:k=0
 ·simp only[zD c0,zB]
  exact⟨_,_,_,rfl,p1,by decide⟩
 ·simp only[zK c0,zA]
  by_cases c1:ty=1
  ·obtain⟨x,i2,g2,e2,p2,_⟩:=hW b i1 g1 2 hb p1 (by omega)
   simp only[zD c1,zB,e2,zC]
   exact⟨_,_,_,rfl,p2,show E0.size≤31 by decide⟩
  ·simp only[zK c1,zA]
   by_cases c2:ty=2
   ·obtain⟨x,i2,g2,e2,p2,_⟩:=hW b i1 g1 12 hb p1 (by omega)
    simp only[zD c2,zB,e2,zC]
    exact⟨_,_,_,rfl,p2,show E0.size≤31 by decide⟩
   ·simp only[zK c2,zA]
    by_cases c3:ty=3
    ·obtain⟨x,i2,g2,e2,p2,q2⟩:=hS b i1 g1 hb p1
     simp only[zD c3,zB,e2,zC]
     exact⟨_,_,_,rfl,p2,Nat.le_trans q2 (by decide)⟩
    ·simp only[zK c3,zA]
     exact⟨_,_,_,rfl,p1,by decide⟩
theorem E6q:EV fun n=>∀(b:List Int) (i h:Int),b.length≤1048576→0≤i→B46 b (fun v:B3m=>v.2.2.size≤31) (C5k n b i h):=(D4v.and B86).up fun n ⟨hS,hW⟩ b i h hb hi=>by
 obtain⟨k,i1,g1,e1,p1,_⟩:=hW b i h 4 hb hi (by omega)
 obtain⟨v,i2,g2,e2,p2,q2⟩:=hS b i1 g1 k hb p1
 simp only[C5k,e1,e2,zC]
 exact⟨_,_,_,rfl,p2,q2⟩
theorem D8i:EV fun n=>∀(b:List Int) (i h:Int),b.length≤1048576→0≤i→B46 b (fun v:B3m=>v.2.2.size≤31) (B7n n b i h):=(E6q.and (B86.and F10)).up fun n ⟨hV,hW,hR⟩ b i h hb hi=>by
 obtain⟨v,i1,g1,e1,p1,q1⟩:=hV b i h hb hi
 obtain⟨k,i2,g2,e2,p2,_⟩:=hW b i1 g1 12 hb p1 (by omega)
 simp only[B7n,e1,e2,zC,B39]
 by_cases c0:k=0
 ·obtain⟨x,i3,g3,e3,p3,_⟩:=hR b i2 g2 hb p2
  subst c0
  simp only[show decide ((0:Int)=0)=true from rfl,show decide ((0:Int)=1)=false from rfl,show decide ((0:Int)=2)=false from rfl,zB,zA,e3,zC]
  exact⟨_,_,_,rfl,p3,q1⟩
 ·simp only[zK c0,zA]
  by_cases c1:k=1
  ·obtain⟨x,i3,g3,e3,p3,_⟩:=hR b i2 g2 hb p2
   subst c1
   simp only[show decide ((1:Int)=1)=true from rfl,show decide ((1:Int)=2)=false from rfl,zB,zA,e3,zC]
   exact⟨_,_,_,rfl,p3,q1⟩
  ·simp only[zK c1,zA]
   by_cases c2:k=2
   ·obtain⟨x,i3,g3,e3,p3,q3,_⟩:=hW b i2 g2 2 hb p2 (by omega)
    have q3:=q3 (by omega)
    have w:IntKind.wrap .i64 ((30:Int)+x)=30+x:=wrap64 (by omega) (by omega)
    have hr:(decide (True∧0≤30+x)&&room (30+x).toNat 1)=true:=by simp[room];omega
    simp only[zD c2,zB,e3,zC,w,hr]
    refine⟨_,_,_,rfl,p3,?_⟩
    show(strOfNums _).size≤31
    rw[C2u,List.length_replicate];omega
   ·simp only[zK c2,zA]
    exact⟨_,_,_,rfl,p2,q1⟩
theorem C2z:∀x y:List UInt8,(Op.bytesLess x y&&Op.bytesLess y x)=false∧(Op.bytesLess x y||Op.bytesLess y x)= !decide (x=y)
 |[],[]=>by simp[Op.bytesLess]
 |[],b::y=>by simp[Op.bytesLess]
 |a::x,[]=>by simp[Op.bytesLess]
 |a::x,b::y=>by
  obtain⟨h1,h2⟩:=C2z x y
  simp only[Op.bytesLess]
  by_cases h:a=b
  ·subst h
   simp only[show(a<a)=False from eq_false (UInt8.lt_irrefl a),zH,Bool.false_or,BEq.rfl,zG1,h1,h2,List.cons.injEq,true_and]
  ·have hn:¬b=a:=fun e=>h e.symm
   have e1:(a==b)=false:=by simp[h]
   have e2:(b==a)=false:=by simp[hn]
   simp only[e1,e2,Bool.false_and,Bool.or_false,List.cons.injEq,h,false_and,zH,zU]
   rcases UInt8.lt_or_lt_of_ne h with g|g
   ·have:¬b<a:=UInt8.lt_asymm g
    simp[g,this]
   ·have:¬a<b:=UInt8.lt_asymm g
    simp[g,this]
theorem E5o {x y:B3m}(hx:B3x x.1 x.2.1 x.2.2=true)(hy:B3x y.1 y.2.1 y.2.2=true):(B7l x y&&B7l y x)=false∧(B7l x y||B7l y x)= !decide (x=y):=by
 obtain⟨a,b,s⟩:=x;obtain⟨c,d,t⟩:=y
 simp only[B7l,hx,hy,zG1]
 by_cases h1:a=c
 ·subst h1
  by_cases h2:b=d
  ·subst h2
   simp only[if_true]
   obtain⟨g1,g2⟩:=C2z s.toList t.toList
   refine⟨g1,?_⟩
   rw[g2]
   simp[E0n]
  ·simp only[if_true,if_neg h2,if_neg (fun e:d=b=>h2 e.symm)]
   have:¬((a,(b,s)):B3m)=(a,(d,t)):=by simp[h2]
   rw[zK this]
   by_cases h3:b<d
   ·simp[h3];omega
   ·have:d<b:=by omega
    simp[h3,this]
 ·simp only[if_neg h1,if_neg (fun e:c=a=>h1 e.symm)]
  have:¬((a,(b,s)):B3m)=(c,(d,t)):=by simp[h1]
  rw[zK this]
  by_cases h3:a<c
  ·simp[h3];omega
  ·have:c<a:=by omega
   simp[h3,this]
theorem D1q (s:ByteArray)(a b:Nat):sI (s.extract a b)=((sI s).drop a).take (b - a):=by
 unfold sI
 rw[ByteArray.data_extract,Array.toList_extract,List.extract_eq_drop_take,List.map_take,List.map_drop]
theorem C28 (a b:ByteArray):sI (a++b)=sI a++sI b:=by simp[sI,ByteArray.data_append]
theorem E9k {a b:ByteArray}(h:sI a=sI b):a=b:=by
 apply C08
 unfold sI at h
 refine List.map_inj_right (f:=fun b:UInt8=>(b.toNat:Int)) (fun x y e=>?_)|>.mp h
 exact UInt8.toNat.inj (by omega)
def spl (c:Int):List Int→List Int→List (List Int)
 |[],cur=>[cur]
 |b::t,cur=>if b=c then cur::spl c t []else spl c t (cur++[b])
theorem D8f (s:ByteArray)(c:Int):∀(t:List UInt8) (k f:Nat) (acc:List ByteArray),s.data.toList.drop k=t→k≤s.size→f≤k→
  (C9p s c t k f acc).map sI=acc.map sI++spl c (t.map fun b=>(b.toNat:Int)) (((sI s).drop f).take (k - f))
 |[],k,f,acc,hd,hk,hf=>by simp[C9p,spl,D1q]
 |b::t,k,f,acc,hd,hk,hf=>by
  have hd':(sI s).drop k=(b.toNat:Int)::t.map fun b=>(b.toNat:Int):=by
   unfold sI;rw[←List.map_drop,hd];rfl
  have hlt:k<s.size:=by
   have:=congrArg List.length hd
   simp only[List.length_drop,B3y,zW]at this;omega
  have hd2:s.data.toList.drop (k+1)=t:=by rw[←List.drop_drop,hd];rfl
  simp only[C9p,List.map_cons,spl]
  split
  ·rename_i h
   rw[D8f s c t (k+1) (k+1) _ hd2 (by omega) (by omega)]
   simp[D1q]
  ·rw[D8f s c t (k+1) f _ hd2 (by omega) (by omega)]
   congr 2
   have h1:((sI s).drop f)[k - f]?=some (b.toNat:Int):=by
    rw[List.getElem?_drop,show f+(k - f)=k by omega]
    have:=congrArg (fun l:List Int=>l[0]?) hd'
    simpa[List.getElem?_drop]using this
   rw[show k+1 - f=(k - f)+1 by omega,List.take_add_one,h1]
   rfl
theorem E51 (s:ByteArray)(c:Int):(B33 s c).map sI=spl c (sI s) []:=by
 rw[B33,D8f s c s.data.toList 0 0 [] rfl (by omega) (by omega)]
 simp[sI]
def C2k (s:ByteArray):Prop:=∀x∈sI s,x≠32
theorem D3r {c:Int}:∀(x rest cur:List Int),(∀b∈x,b≠c)→spl c (x++rest) cur=spl c rest (cur++x)
 |[],rest,cur,_=>by simp
 |b::x,rest,cur,h=>by
  simp only[List.cons_append,spl]
  rw[if_neg (h b (zM ..)),D3r x rest _ fun y hy=>h y (zF _ hy)]
  simp
theorem E43:∀(r:List ByteArray) (acc:ByteArray),sI (B88 1 acc r)=sI acc++r.flatMap fun w=>32::sI w
 |[],acc=>by simp[C67]
 |w::r,acc=>by
  rw[B3p,E43 r,C28,C28,zV]
  have:sI C91=[32]:=by decide
  rw[this];simp
theorem E5z:∀(r:List ByteArray) (cur:List Int),(∀w∈r,C2k w)→spl 32 (r.flatMap fun w=>32::sI w) cur=cur::r.map sI
 |[],cur,_=>rfl
 |w::r,cur,h=>by
  rw[zV,List.cons_append,spl,if_pos rfl,D3r _ _ _ (h w (zM ..)),E5z r _ fun y hy=>h y (zF _ hy)]
  simp
theorem D1i:∀{l m:List ByteArray},l.map sI=m.map sI→l=m
 |[],[],_=>rfl
 |[],_::_,h=>by simp at h
 |_::_,[],h=>by simp at h
 |a::l,b::m,h=>by
  simp only[List.map_cons,List.cons.injEq]at h
  rw[E9k h.1,D1i h.2]
theorem D8h {L:List ByteArray}(h0:L≠[])(h:∀w∈L,C2k w):B33 (B8p L) 32=L:=by
 cases L with
 |nil=>exact absurd rfl h0
 |cons a r=>
  apply D1i
  rw[E51,join_cons,E43,D3r _ _ _ (h a (zM ..)),E5z r _ fun y hy=>h y (zF _ hy)]
  simp
theorem C1b {s:ByteArray}(h:B3h s=true):C2k s:=by
 simp only[B3h,zJ,List.all_eq_true]at h
 intro x hx
 obtain⟨b,hb,rfl⟩:=List.mem_map.mp hx
 have:=h.1 b hb
 simp only[lower,zG]at this
 omega
def wTo:ByteArray:=⟨#[116,111]⟩
theorem E7q:∀d:Fin 10,sI (dig (d.val:Int))=[48+(d.val:Int)]:=by decide
theorem C4n:∀(f:Nat) (a:Int),0≤a→∀x∈sI (C2j f a),48≤x∧x≤57
 |0,a,_,x,hx=>by
  have:sI (C2j 0 a)=[]:=(by decide:sI E0=[])
  rw[this]at hx;simp at hx
 |f+1,a,h,x,hx=>by
  have one:∀d:Int,0≤d→d<10→∀x∈sI (dig d),48≤x∧x≤57:=by
   intro d h0 h1 x hx
   obtain⟨d,rfl⟩:=Int.eq_ofNat_of_zero_le h0
   rw[E7q ⟨d,by omega⟩]at hx
   simp at hx;subst hx;omega
  simp only[C2j]at hx
  split at hx
  ·rename_i hlt
   exact one a h hlt x hx
  ·rw[C28]at hx
   rcases zY.mp hx with hx|hx
   ·exact C4n f (a / 10) (by omega) x hx
   ·exact one (a % 10) (by omega) (by omega) x hx
theorem E31 (a:Int):∀x∈sI (B2y a),x≠32∧x≤57:=by
 intro x hx
 unfold B2y at hx
 split at hx
 ·split at hx
  ·rw[C28]at hx
   rcases zY.mp hx with hx|hx
   ·have:sI E2y=[45]:=by decide
    rw[this]at hx;simp at hx;omega
   ·have:=C4n 14 (-a) (by omega) x hx;omega
  ·have:=C4n 14 a (by omega) x hx;omega
 ·have:sI E0=[]:=by decide
  rw[this]at hx;simp at hx
theorem E35:∀(t:List UInt8),∀x∈B4v t,x≠32
 |[],x,hx=>by simp[B4v]at hx
 |b::t,x,hx=>by
  have hh:∀k:Fin 16,C68 k.val≠32:=by decide
  simp only[B4v]at hx
  rcases zY.mp hx with hx|hx
  ·unfold C4w at hx
   split at hx
   ·rename_i hp
    have hp:33≤b.toNat:=hp.1
    simp at hx;omega
   ·have hb:b.toNat<256:=b.toNat_lt
    simp at hx
    rcases hx with hx|hx|hx
    ·omega
    ·rw[hx];exact hh ⟨b.toNat / 16,by omega⟩
    ·rw[hx];exact hh ⟨b.toNat % 16,by omega⟩
  ·exact E35 t x hx
theorem D3y {v:B3m}(h:vOk v=true):C2k (B2i v)∧B2i v≠wTo:=by
 have hne:B2i v≠E0:=E0q h rfl
 unfold vOk at h
 unfold B2i at hne⊢
 rw[if_pos h]at hne⊢
 split
 ·exact⟨by unfold C2k;decide,by decide⟩
 ·split
  ·unfold C4d
   split
   ·exact⟨by unfold C2k;decide,by decide⟩
   ·exact⟨by unfold C2k;decide,by decide⟩
  ·split
   ·refine⟨fun x hx=>(E31 _ x hx).1,fun e=>?_⟩
    have:=(E31 v.2.1 116 (by rw[e];decide)).2
    omega
   ·rw[C2k,D3l]
    refine⟨fun x hx=>?_,fun e=>?_⟩
    ·rcases List.mem_cons.mp hx with rfl|hx
     ·decide
     ·rcases zY.mp hx with hx|hx
      ·exact E35 _ x hx
      ·simp at hx;omega
    ·have:=congrArg sI e
     rw[D3l]at this
     have hs:sI wTo=[116,111]:=by decide
     rw[hs]at this
     simp at this

noncomputable def C6g (l:List ByteArray):B2m:=l.map fun x=>if(cTV x).2.1=true then(cTV x).1 else(-1,(0,E0))
noncomputable def C5p (l:List ByteArray):B2m:=(l.map fun x=>(cTV x).1).take 9
theorem D8a {v:B3m}(h:vOk v=true)(hs:(B2i v).size≤1048576):cTV (B2i v)=(v,(true,())):=by
 obtain⟨n,hn⟩:=C3x.get
 obtain⟨r,_,h1,h2⟩:=hn (B2i v) hs
 rw[E6f h1 h2];exact h2 v h rfl
def Reads (R:List ByteArray→B2m):Prop:=∀l:B2m,l.all vOk=true→l.length≤8→(∀t∈B37 l,t.size≤1048576)→R (B37 l)=l
theorem D7k:Reads C6g:=by
 intro l
 induction l with
 |nil=>intro _ _ _;rfl
 |cons v l ih=>
  intro h h8 hs
  simp only[List.all_cons,zJ]at h
  have e:=D8a h.1 (hs _ (zM ..))
  have ih:=ih h.2 (by simp at h8;omega) fun t ht=>hs t (zF _ ht)
  show(if(cTV (B2i v)).2.1=true then(cTV (B2i v)).1 else(-1,(0,E0)))::C6g (B37 l)=_
  rw[e,ih];rfl
theorem D3m:Reads C5p:=by
 intro l h h8 hs
 have:∀l:B2m,l.all vOk=true→(∀t∈B37 l,t.size≤1048576)→((B37 l).map fun x=>(cTV x).1)=l:=by
  intro l
  induction l with
  |nil=>intro _ _;rfl
  |cons v l ih=>
   intro h hs
   simp only[List.all_cons,zJ]at h
   have e:=D8a h.1 (hs _ (zM ..))
   have ih:=ih h.2 fun t ht=>hs t (zF _ ht)
   show(cTV (B2i v)).1::((B37 l).map fun x=>(cTV x).1)=_
   rw[e,ih]
 unfold C5p
 rw[this l h hs,List.take_of_length_le (by omega)]
theorem E0r {l:List ByteArray}(h:C6v l)(hl:l.length≤1048576):B8y 1048576 (C6g l):=by
 refine⟨by simpa[C6g]using hl,fun v hv=>?_⟩
 obtain⟨x,hx,rfl⟩:=List.mem_map.mp hv
 split
 ·exact E2q (h.2 x hx)
 ·exact(by decide:E0.size≤1048576)
theorem D8x:EV fun n=>∀l:List ByteArray,C6v l→B9v n l=some (C6g l):=(C8r.and (EV.gt 1048578)).up fun n ⟨hT,hn⟩ l hl=>by
 have h1:=hl.1
 rw[B9v]
 refine(C4v l (fun x=>if(cTV x).2.1=true then(cTV x).1 else(-1,(0,E0))) (fun j k s=>B6s n j l (l.length:Int) (k:Int) s) (fun j s=>by simp only[B6s,B27,zP,zH,zA]) (fun j k s hk hs=>?_) l n 0 [] rfl (by omega) (by omega) rfl).trans (by rfl)
 have hr:∀v:B3m,room (s.length+[v].length) 32=true:=fun v=>F11 (by simp;omega)
 simp only[B6s,B27,zD hk,B25 hk,zE,getD_at hk,zB,B28 hk (by omega),hT _ (hl.2 _ (zL hk)),zC]
 cases hc:(cTV l[k]).2.1
 ·simp only[zU,zB,hr];rfl
 ·simp only[zT,zA,hr,if_true];rfl
def pTo (x:ByteArray):Bool:=decide (x=wTo)
def D5c:B4e:=(0,(E0,([],([],B4o))))
def D3b (x:B4e)(s:ByteArray):B4e×(Bool×Unit):=if B2f x=s then(x,(true,()))else(D5c,(false,()))
theorem D3c (x:B4e)(s:ByteArray):(bif !(decide (B2f x=s))then some (D5c,(false,()))else some (x,(true,())))=some (D3b x s):=by
 unfold D3b
 by_cases h:B2f x=s<;>simp[h]
theorem C64 {x:B4e}{s:ByteArray}(h:B2f x≠s):D3b x s=(D5c,(false,())):=by simp[D3b,h]
theorem C6t {x:B4e}{s:ByteArray}(hs:s≠E0)(h:B3v x=false):B2f x≠s:=by
 simp only[B2f,h];exact fun e=>hs e.symm
theorem C92 {x:B4e}{s:ByteArray}(hs:s≠E0)(h:B2f x=s):B3v x=true:=by
 cases hc:B3v x with
 |true=>rfl
 |false=>exact absurd h (C6t hs hc)
theorem C1r {l:B2m}(h:l.all vOk=true):∀t∈B37 l,C2k t∧t≠wTo:=by
 intro t ht
 obtain⟨v,hv,rfl⟩:=List.mem_map.mp ht
 exact D3y (List.all_eq_true.mp h v hv)
def C9s:ByteArray:=⟨#[105,110,115,101,114,116]⟩
def D5i:ByteArray:=⟨#[117,112,100,97,116,101]⟩
def D9n:ByteArray:=⟨#[100,101,108,101,116,101]⟩
def E45:ByteArray:=⟨#[99,108,101,97,114]⟩
theorem E5r:C2k C9s:=by unfold C2k;decide
theorem E9f:C2k D5i:=by unfold C2k;decide
theorem E9e:C2k D9n:=by unfold C2k;decide
theorem F09:C2k wTo:=by unfold C2k;decide
theorem E6l {s:ByteArray}{L:List ByteArray}(h:B8p L=s)(h0:L≠[])(hL:∀w∈L,C2k w):B33 s 32=L:=by rw[←h];exact D8h h0 hL
theorem C4e {l:B2m}(h:B5s l=true):l.all vOk=true∧l.length≤8:=by
 simp only[B5s,zJ,zG]at h
 exact⟨h.2,h.1.2⟩
theorem E5j {s:ByteArray}{R:List ByteArray→B2m}(hs:s≠E0)(h:B2f (1,((B33 s 32).getD 1 E0,([],(R ((B33 s 32).drop 2),B4o))))=s):
  ∃l:B2m,(B33 s 32).drop 2=B37 l∧l.all vOk=true∧l.length≤8∧R ((B33 s 32).drop 2)=l:=by
 have hok:=C92 hs h
 generalize hl:R ((B33 s 32).drop 2)=l at h hok
 unfold B2f at h
 rw[if_pos hok,if_pos rfl]at h
 simp[B3v]at hok
 obtain⟨hk,h8⟩:=C4e hok.2
 have:=E6l h (by simp) (fun w hw=>by
  rcases zY.mp hw with hw|hw
  ·simp at hw
   rcases hw with rfl|rfl
   ·exact E5r
   ·simpa using C1b hok.1
  ·exact(C1r hk w hw).1)
 exact⟨l,by rw[this];rfl,hk,h8,rfl⟩
theorem E59 {s:ByteArray}{R:List ByteArray→B2m}(hs:s≠E0)(h:B2f (3,((B33 s 32).getD 1 E0,(R ((B33 s 32).drop 2),([],B4o))))=s):
  ∃l:B2m,(B33 s 32).drop 2=B37 l∧l.all vOk=true∧l.length≤8∧R ((B33 s 32).drop 2)=l:=by
 have hok:=C92 hs h
 generalize hl:R ((B33 s 32).drop 2)=l at h hok
 unfold B2f at h
 rw[if_pos hok,if_neg (show¬(3:Int)=1 by decide),if_neg (show¬(3:Int)=2 by decide),if_pos rfl]at h
 simp[B3v]at hok
 obtain⟨hk,h8⟩:=C4e hok.2
 have:=E6l h (by simp) (fun w hw=>by
  rcases zY.mp hw with hw|hw
  ·simp at hw
   rcases hw with rfl|rfl
   ·exact E9e
   ·simpa using C1b hok.1
  ·exact(C1r hk w hw).1)
 exact⟨l,by rw[this];rfl,hk,h8,rfl⟩
theorem D50 {p:ByteArray→Bool}:∀(l m:List ByteArray) (x:ByteArray) (k:Nat),(∀y∈l,p y=false)→p x=true→idxFrom p (l++x::m) k=((k+l.length:Nat):Int)
 |[],m,x,k,_,hx=>by simp[idxFrom,hx]
 |y::l,m,x,k,h,hx=>by
  simp only[List.cons_append,idxFrom,h y (zM ..),if_neg (show¬(false=true)by decide),zW]
  rw[D50 l m x (k+1) (fun z hz=>h z (zF _ hz)) hx]
  omega
theorem E68 {s:ByteArray}{R:List ByteArray→B2m}{i:Nat}(hs:s≠E0)(hi:idx pTo ((B33 s 32).drop 2)=(i:Int))
  (h:B2f (2,((B33 s 32).getD 1 E0,(R (((B33 s 32).drop 2).take i),(R (((B33 s 32).drop 2).drop (i+1)),B4o))))=s):
  ∃k v:B2m,((B33 s 32).drop 2).take i=B37 k∧((B33 s 32).drop 2).drop (i+1)=B37 v∧k.all vOk=true∧k.length≤8∧v.all vOk=true∧v.length≤8∧R (((B33 s 32).drop 2).take i)=k∧R (((B33 s 32).drop 2).drop (i+1))=v:=by
 have hok:=C92 hs h
 generalize hl:R (((B33 s 32).drop 2).take i)=k at h hok
 generalize hm:R (((B33 s 32).drop 2).drop (i+1))=v at h hok
 unfold B2f at h
 rw[if_pos hok,if_neg (show¬(2:Int)=1 by decide),if_pos rfl]at h
 simp[B3v]at hok
 obtain⟨hk,h8⟩:=C4e hok.2.1
 obtain⟨hv,v8⟩:=C4e hok.2.2
 have hc:=E6l h (by simp) (fun w hw=>by
  rcases zY.mp hw with hw|hw
  ·rcases zY.mp hw with hw|hw
   ·rcases zY.mp hw with hw|hw
    ·simp at hw
     rcases hw with rfl|rfl
     ·exact E9f
     ·simpa using C1b hok.1
    ·exact(C1r hk w hw).1
   ·simp at hw;subst hw;exact F09
  ·exact(C1r hv w hw).1)
 have hd:(B33 s 32).drop 2=B37 k++wTo::B37 v:=by
  rw[hc];simp;rfl
 have hlen:i=(B37 k).length:=by
  rw[hd]at hi
  have:=D50 (p:=pTo) (B37 k) (B37 v) wTo 0 (fun y hy=>zK (C1r hk y hy).2) (zD rfl)
  unfold idx at hi
  rw[this]at hi;omega
 refine⟨k,v,?_,?_,hk,h8,hv,v8,rfl,rfl⟩
 ·rw[hd,hlen,List.take_left]
 ·rw[hd,hlen,←List.drop_drop,List.drop_left];rfl
theorem F07 {s:ByteArray}(hs:s≠E0)(hz:s.size≤1048576)(T:ByteArray)(hT:T=(B33 s 32).getD 1 E0):D3b (1,(T,([],(C6g ((B33 s 32).drop 2),B4o)))) s=D3b (1,(T,([],(C5p ((B33 s 32).drop 2),B4o)))) s:=by
 subst hT
 have small:∀l:B2m,(B33 s 32).drop 2=B37 l→∀t∈B37 l,t.size≤1048576:=fun l hl t ht=>(C3q 32 hz).2 t (List.mem_of_mem_drop (by rw[hl];exact ht))
 by_cases h1:B2f (1,((B33 s 32).getD 1 E0,([],(C6g ((B33 s 32).drop 2),B4o))))=s
 ·obtain⟨l,e,a,b,c⟩:=E5j hs h1
  rw[c,e,D3m l a b (small l e)]
 ·by_cases h2:B2f (1,((B33 s 32).getD 1 E0,([],(C5p ((B33 s 32).drop 2),B4o))))=s
  ·obtain⟨l,e,a,b,c⟩:=E5j hs h2
   rw[c,e,D7k l a b (small l e)]
  ·rw[C64 h1,C64 h2]
theorem F03 {s:ByteArray}(hs:s≠E0)(hz:s.size≤1048576)(T:ByteArray)(hT:T=(B33 s 32).getD 1 E0):D3b (3,(T,(C6g ((B33 s 32).drop 2),([],B4o)))) s=D3b (3,(T,(C5p ((B33 s 32).drop 2),([],B4o)))) s:=by
 subst hT
 have small:∀l:B2m,(B33 s 32).drop 2=B37 l→∀t∈B37 l,t.size≤1048576:=fun l hl t ht=>(C3q 32 hz).2 t (List.mem_of_mem_drop (by rw[hl];exact ht))
 by_cases h1:B2f (3,((B33 s 32).getD 1 E0,(C6g ((B33 s 32).drop 2),([],B4o))))=s
 ·obtain⟨l,e,a,b,c⟩:=E59 hs h1
  rw[c,e,D3m l a b (small l e)]
 ·by_cases h2:B2f (3,((B33 s 32).getD 1 E0,(C5p ((B33 s 32).drop 2),([],B4o))))=s
  ·obtain⟨l,e,a,b,c⟩:=E59 hs h2
   rw[c,e,D7k l a b (small l e)]
  ·rw[C64 h1,C64 h2]
theorem F0i {s:ByteArray}{i:Nat}(hs:s≠E0)(hz:s.size≤1048576)(hi:idx pTo ((B33 s 32).drop 2)=(i:Int))(T:ByteArray)(hT:T=(B33 s 32).getD 1 E0):
  D3b (2,(T,(C6g (((B33 s 32).drop 2).take i),(C6g (((B33 s 32).drop 2).drop (i+1)),B4o)))) s=D3b (2,(T,(C5p (((B33 s 32).drop 2).take i),(C5p (((B33 s 32).drop 2).drop (i+1)),B4o)))) s:=by
 subst hT
 have small:∀t∈(B33 s 32).drop 2,t.size≤1048576:=fun t ht=>(C3q 32 hz).2 t (List.mem_of_mem_drop ht)
 by_cases h1:B2f (2,((B33 s 32).getD 1 E0,(C6g (((B33 s 32).drop 2).take i),(C6g (((B33 s 32).drop 2).drop (i+1)),B4o))))=s
 ·obtain⟨k,v,e1,e2,a,b,c,d,f,g⟩:=E68 hs hi h1
  have s1:∀t∈B37 k,t.size≤1048576:=fun t ht=>small t (List.mem_of_mem_take (by rw[e1];exact ht))
  have s2:∀t∈B37 v,t.size≤1048576:=fun t ht=>small t (List.mem_of_mem_drop (by rw[e2];exact ht))
  rw[f,g,e1,e2,D3m k a b s1,D3m v c d s2]
 ·by_cases h2:B2f (2,((B33 s 32).getD 1 E0,(C5p (((B33 s 32).drop 2).take i),(C5p (((B33 s 32).drop 2).drop (i+1)),B4o))))=s
  ·obtain⟨k,v,e1,e2,a,b,c,d,f,g⟩:=E68 hs hi h2
   have s1:∀t∈B37 k,t.size≤1048576:=fun t ht=>small t (List.mem_of_mem_take (by rw[e1];exact ht))
   have s2:∀t∈B37 v,t.size≤1048576:=fun t ht=>small t (List.mem_of_mem_drop (by rw[e2];exact ht))
   rw[f,g,e1,e2,D7k k a b s1,D7k v c d s2]
  ·rw[C64 h1,C64 h2]
theorem C65 (d:B3r)(s:ByteArray):(fin d s=(d,(true,()))∧B2u d=s)∨fin d s=(B4o,(false,())):=by
 unfold fin
 split
 ·rename_i h;exact .inl ⟨rfl,h⟩
 ·exact .inr rfl
theorem E7p (s:ByteArray):(∃d:B3r,B93 s=(d,(true,()))∧B2u d=s∧d.2.1=(B33 s 32).getD 1 E0∧¬(B33 s 32).length<2∧((B33 s 32).getD 0 E0=C17∨(B33 s 32).getD 0 E0=D3t∨(B33 s 32).getD 0 E0=E44∨(B33 s 32).getD 0 E0=E1l∨(B33 s 32).getD 0 E0=C93))∨B93 s=(B4o,(false,())):=by
 unfold B93
 split
 ·exact .inr rfl
 ·rename_i hl
  split
  ·rename_i h;rcases C65 (1,((B33 s 32).getD 1 E0,((C2p tyS ((B33 s 32).drop 2)).1,((C2p tyS ((B33 s 32).drop 2)).2,(E0,E0))))) s with⟨a,b⟩|a
   ·exact .inl ⟨_,a,b,rfl,hl,.inl h⟩
   ·exact .inr a
  ·split
   ·rename_i h;rcases C65 (2,((B33 s 32).getD 1 E0,([],([],(E0,E0))))) s with⟨a,b⟩|a
    ·exact .inl ⟨_,a,b,rfl,hl,.inr (.inl h)⟩
    ·exact .inr a
   ·split
    ·rename_i h;rcases C65 (3,((B33 s 32).getD 1 E0,([C2o tyS ((B33 s 32).drop 2)],([],(E0,E0))))) s with⟨a,b⟩|a
     ·exact .inl ⟨_,a,b,rfl,hl,.inr (.inr (.inl h))⟩
     ·exact .inr a
    ·split
     ·rename_i h;rcases C65 (4,((B33 s 32).getD 1 E0,([],([],((B33 s 32).getD 2 E0,E0))))) s with⟨a,b⟩|a
      ·exact .inl ⟨_,a,b,rfl,hl,.inr (.inr (.inr (.inl h.1)))⟩
      ·exact .inr a
     ·split
      ·rename_i h;rcases C65 (5,((B33 s 32).getD 1 E0,([],([],((B33 s 32).getD 2 E0,(B33 s 32).getD 3 E0))))) s with⟨a,b⟩|a
       ·exact .inl ⟨_,a,b,rfl,hl,.inr (.inr (.inr (.inr h.1)))⟩
       ·exact .inr a
      ·exact .inr rfl
noncomputable def C1i (s:ByteArray):B4e×(Bool×Unit):=if(B33 s 32).length<2 then(D5c,(false,()))else
 if(B33 s 32).getD 0 E0=C9s then D3b (1,((B33 s 32).getD 1 E0,([],(C5p ((B33 s 32).drop 2),B4o)))) s else
 if(B33 s 32).getD 0 E0=D5i then(if idx pTo ((B33 s 32).drop 2)<0 then(D5c,(false,()))else D3b (2,((B33 s 32).getD 1 E0,(C5p (((B33 s 32).drop 2).take (idx pTo ((B33 s 32).drop 2)).toNat),(C5p (((B33 s 32).drop 2).drop ((idx pTo ((B33 s 32).drop 2)).toNat+1)),B4o)))) s)else
 if(B33 s 32).getD 0 E0=D9n then D3b (3,((B33 s 32).getD 1 E0,(C5p ((B33 s 32).drop 2),([],B4o)))) s else
 if(B33 s 32).getD 0 E0=E45 then D3b (4,((B33 s 32).getD 1 E0,([],([],B4o)))) s else
 if(B93 s).2.1=true then((5,((B93 s).1.2.1,([],([],(B93 s).1)))),(true,()))else(D5c,(false,()))
theorem E8r:EV fun n=>∀l:List ByteArray,l.length≤1048577→B2k n l wTo=some (idx pTo l):=(EV.gt 1048580).up fun m hn l hl=>by
 rw[B2k]
 refine B77 pTo l (fun j k=>B2c m j l wTo (l.length:Int) (k:Int)) (fun j=>by simp only[B2c,B27,zP,zH,zA]) (fun j k hk=>?_) l m 0 rfl (by omega) (by omega)
 simp only[B2c,B27,zD hk,B25 hk,zE,getD_at hk,zB,B28 hk (by omega),B3i,pTo]
 rw[B76]
 by_cases h:l[k]=wTo
 ·simp[h]
 ·simp[h,show¬(wTo=l[k])from fun e=>h e.symm]
theorem D54:EV fun n=>∀s:ByteArray,s.size≤1048576→C34 n s=some (C1i s):=(D0z.and (D6p.and (D8x.and (C6b.and E8r)))).up fun n ⟨h1,h2,h3,hD,hn⟩ s hs=>by
 have hw:=C3q 32 hs
 have hne:=@E8c s 32
 have hins:=fun h0=>F07 (s:=s) h0 hs _ rfl
 have hdel:=fun h0=>F03 (s:=s) h0 hs _ rfl
 have hupd:=fun(i:Nat) h0 hi=>F0i (s:=s) (i:=i) h0 hs hi _ rfl
 have hddl:=E7p s
 simp only[C34,h1 s hs,h2 s hs,zC,C1i]
 generalize B33 s 32=w at hw hne hins hdel hupd hddl⊢
 have n1:C9s≠C17∧C9s≠D3t∧C9s≠E44∧C9s≠E1l∧C9s≠C93:=by decide
 have n2:D5i≠C17∧D5i≠D3t∧D5i≠E44∧D5i≠E1l∧D5i≠C93:=by decide
 have n3:D9n≠C17∧D9n≠D3t∧D9n≠E44∧D9n≠E1l∧D9n≠C93:=by decide
 have n4:E45≠C17∧E45≠D3t∧E45≠E44∧E45≠E1l∧E45≠C93:=by decide
 have notd:∀v:ByteArray,w.getD 0 E0=v→(v≠C17∧v≠D3t∧v≠E44∧v≠E1l∧v≠C93)→B93 s=(B4o,(false,())):=by
  intro v hv ⟨a,b,c,d,e⟩
  rcases hddl with⟨_,_,_,_,_,h⟩|h
  ·rw[hv]at h
   rcases h with h|h|h|h|h
   ·exact absurd h a
   ·exact absurd h b
   ·exact absurd h c
   ·exact absurd h d
   ·exact absurd h e
  ·exact h
 by_cases hl:w.length<2
 ·have hz:B93 s=(B4o,(false,())):=by
   rcases hddl with⟨_,_,_,_,h,_⟩|h
   ·exact absurd hl h
   ·exact h
  have e0:decide ((w.length:Int)<(2:Int))=true:=zD (by omega)
  rw[hz]
  simp only[zA,e0,zB,if_pos hl];rfl
 ·have hs0:=hne hl
  have hl1:=hw.1
  have hins:=hins hs0
  have hdel:=hdel hs0
  have e0:decide ((w.length:Int)<(2:Int))=false:=zK (by omega)
  have e1:inR (0:Int) w.length=true:=B25 (k:=0) (by omega)
  have e2:inR (1:Int) w.length=true:=B25 (k:=1) (by omega)
  have e3:decide (0≤(2:Int)∧(2:Int)≤((w.length:Nat):Int)∧((w.length:Nat):Int)≤(w.length:Int))=true:=zD ⟨by omega,by omega,by omega⟩
  have zv:B8y 1048576 []:=⟨by simp,by simp⟩
  have d2:=hw.drop 2
  have dl:(w.drop 2).length≤1048575:=by simp;omega
  have DD:∀(k:Int) (a b:B2m),B8y 1048576 a→B8y 1048576 b→B4h n k (w.getD 1 E0) a b 0 E0 [] [] E0 E0=some (B2f (k,(w.getD 1 E0,(a,(b,B4o))))):=fun k a b g1 g2=>hD (k,(w.getD 1 E0,(a,(b,B4o)))) ⟨hw.get 1,g1,g2,E5p⟩
  have V:=h3 (w.drop 2) d2
  have Vs:=E0r d2 (by omega)
  have hI:=hn (w.drop 2) d2.1
  have D0:=DD 0 [] [] zv zv
  have bad0:B2f (0,(w.getD 1 E0,([],([],B4o))))≠s:=C6t hs0 (by simp[B3v])
  by_cases c1:w.getD 0 E0=C9s
  ·rw[notd _ c1 n1]
   have D1:=DD 1 [] _ zv Vs
   simp only[zA,e0,e1,e2,e3,zB,if_neg hl,if_pos c1,B3i,C9g,show(0:Int).toNat=0 from rfl,show(1:Int).toNat=1 from rfl,show(2:Int).toNat=2 from rfl,show(⟨#[]⟩:ByteArray)=E0 from rfl,show(⟨#[105,110,115,101,114,116]⟩:ByteArray)=C9s from rfl,zD c1,V,zC,D1]
   rw[←hins];exact D3c _ _
  ·by_cases c2:w.getD 0 E0=D5i
   ·rw[notd _ c2 n2]
    have c1':decide (D5i=C9s)=false:=by decide
    simp only[zA,e0,e1,e2,e3,zB,if_neg hl,if_neg c1,if_pos c2,B3i,C9g,show(0:Int).toNat=0 from rfl,show(1:Int).toNat=1 from rfl,show(2:Int).toNat=2 from rfl,show(⟨#[]⟩:ByteArray)=E0 from rfl,show(⟨#[105,110,115,101,114,116]⟩:ByteArray)=C9s from rfl,show(⟨#[117,112,100,97,116,101]⟩:ByteArray)=D5i from rfl,show(⟨#[116,111]⟩:ByteArray)=wTo from rfl,zK c1,zD c2,hI,zC]
    by_cases hc:idx pTo (w.drop 2)<0
    ·have q0:decide ((0:Int)≤idx pTo (w.drop 2))=false:=zK (by omega)
     have D2:=DD 2 [] [] zv zv
     have bad2:B2f (2,(w.getD 1 E0,([],([],B4o))))≠s:=C6t hs0 (by simp[B3v,B5s])
     simp only[q0,zA,if_pos hc,D2,zC,zK bad2,zU,zB];rfl
    ·obtain⟨g1,g2⟩:=C2r pTo (w.drop 2)
     obtain⟨e,he⟩:=Int.eq_ofNat_of_zero_le (show 0≤idx pTo (w.drop 2)by omega)
     have hu:=hupd e hs0 he
     rw[he]at hc g2⊢
     simp only[List.length_drop]at g2 dl
     have q0:decide ((0:Int)≤(e:Int))=true:=zD (by omega)
     have q1:decide (0≤((0:Nat):Int)∧((0:Nat):Int)≤(e:Int)∧(e:Int)≤((w.length - 2:Nat):Int))=true:=zD ⟨by omega,by omega,by omega⟩
     have q3:IntKind.wrap .i64 ((e:Int)+(1:Int))=((e+1:Nat):Int):=B28 (Nat.lt_succ_self e) (by omega)
     have q4:decide (0≤((e+1:Nat):Int)∧((e+1:Nat):Int)≤((w.length - 2:Nat):Int)∧((w.length - 2:Nat):Int)≤((w.length - 2:Nat):Int))=true:=zD ⟨by omega,by omega,by omega⟩
     have t1:(w.drop (2+0)).take (e - 0)=(w.drop 2).take e:=rfl
     have t2:(w.drop (2+(e+1))).take (w.length - 2 - (e+1))=(w.drop 2).drop (e+1):=by
      rw[List.take_of_length_le (by simp;omega),List.drop_drop]
     have V1:=h3 _ (d2.take e)
     have V2:=h3 _ (d2.drop (e+1))
     have D2:=DD 2 _ _ (E0r (d2.take e) (by simp;omega)) (E0r (d2.drop (e+1)) (by simp;omega))
     simp only[q0,q1,q3,q4,zB,if_neg hc,t1,t2,V1,V2,D2,zC,zE]
     rw[←hu];exact D3c _ _
   ·by_cases c3:w.getD 0 E0=D9n
    ·rw[notd _ c3 n3]
     have D3:=DD 3 _ [] Vs zv
     simp only[zA,e0,e1,e2,e3,zB,if_neg hl,if_neg c1,if_neg c2,if_pos c3,B3i,C9g,show(0:Int).toNat=0 from rfl,show(1:Int).toNat=1 from rfl,show(2:Int).toNat=2 from rfl,show(⟨#[]⟩:ByteArray)=E0 from rfl,show(⟨#[105,110,115,101,114,116]⟩:ByteArray)=C9s from rfl,show(⟨#[117,112,100,97,116,101]⟩:ByteArray)=D5i from rfl,show(⟨#[100,101,108,101,116,101]⟩:ByteArray)=D9n from rfl,zK c1,zK c2,zD c3,V,zC,D3]
     rw[←hdel];exact D3c _ _
    ·by_cases c4:w.getD 0 E0=E45
     ·rw[notd _ c4 n4]
      have D4:=DD 4 [] [] zv zv
      simp only[zA,e0,e1,e2,e3,zB,if_neg hl,if_neg c1,if_neg c2,if_neg c3,if_pos c4,B3i,C9g,show(0:Int).toNat=0 from rfl,show(1:Int).toNat=1 from rfl,show(2:Int).toNat=2 from rfl,show(⟨#[]⟩:ByteArray)=E0 from rfl,show(⟨#[105,110,115,101,114,116]⟩:ByteArray)=C9s from rfl,show(⟨#[117,112,100,97,116,101]⟩:ByteArray)=D5i from rfl,show(⟨#[100,101,108,101,116,101]⟩:ByteArray)=D9n from rfl,show(⟨#[99,108,101,97,114]⟩:ByteArray)=E45 from rfl,zK c1,zK c2,zK c3,zD c4,zC,D4]
      exact D3c _ _
     ·rw[if_neg hl,if_neg c1,if_neg c2,if_neg c3,if_neg c4]
      rcases hddl with⟨d,h,_⟩|h
      ·rw[h];rfl
      ·rw[h]
       simp only[zA,e0,e1,e2,e3,zB,B3i,C9g,show(0:Int).toNat=0 from rfl,show(1:Int).toNat=1 from rfl,show(2:Int).toNat=2 from rfl,show(⟨#[]⟩:ByteArray)=E0 from rfl,show(⟨#[105,110,115,101,114,116]⟩:ByteArray)=C9s from rfl,show(⟨#[117,112,100,97,116,101]⟩:ByteArray)=D5i from rfl,show(⟨#[100,101,108,101,116,101]⟩:ByteArray)=D9n from rfl,show(⟨#[99,108,101,97,114]⟩:ByteArray)=E45 from rfl,zK c1,zK c2,zK c3,zK c4,zC,D0,zK bad0,zU];rfl
def C0q {α S:Type}(f:Nat→α→S→S):Nat→List α→S→S
 |_,[],s=>s
 |k,x::t,s=>C0q f (k+1) t (f k x s)
theorem C4p {α S T:Type}(l:List α)(f:Nat→α→S→S)(L:Nat→Nat→S→T)(R:S→T)(Inv:Nat→S→Prop)(hinv:∀k (h:k<l.length) s,Inv k s→Inv (k+1) (f k l[k] s))
  (hexit:∀j s,Inv l.length s→L (j+1) l.length s=R s) (hstep:∀j k s (h:k<l.length),Inv k s→L (j+1) k s=L j (k+1) (f k l[k] s)):
  ∀(t:List α) (j k:Nat) (s:S),l.drop k=t→k≤l.length→t.length<j→Inv k s→L j k s=R (C0q f k t s)
 |[],j+1,k,s,hd,hk,_,hs=>by
  have:k=l.length:=by
   rcases zE1 k l.length with h'|h'
   ·rw[zC1 h']at hd;cases hd
   ·omega
  subst this;rw[hexit _ _ hs];rfl
 |x::t,j+1,k,s,hd,hk,hj,hs=>by
  obtain⟨h2,h3,h4⟩:=B36 hd x
  have hx:l[k]=x:=by simpa[List.getD,h2]using h3
  rw[hstep j k s h2 hs,C4p l f L R Inv hinv hexit hstep t j (k+1) _ h4 (by omega) (by simp at hj;omega) (hinv k h2 s hs)]
  simp only[C0q,hx]
def B4a {α:Type}(l:List α)(i:Nat):List α:=l.take i++l.drop (i+1)
theorem C5q {α:Type}{l:List α}{i:Nat}{x:α}(h:x∈B4a l i):x∈l:=by
 rcases zY.mp h with h|h
 ·exact List.mem_of_mem_take h
 ·exact List.mem_of_mem_drop h
theorem C95 {α:Type}(l:List α)(i:Nat):(B4a l i).length≤l.length:=by simp[B4a];omega
theorem E8g {α:Type}{l:List α}{i:Nat}(h:i<l.length):B1f l (i:Int) ((i+1:Nat):Int)=some (B4a l i):=by
 unfold B1f
 rw[zD (by omega)];rfl
def C97 (x:B26)(l:B2s)(key:B2m):B2s×(Int×Unit):=
 if B3t x l=true then(if D4t x key=true∧0≤idx (fun r=>decide (B2n x.2.1 x.2.2 r=key)) l then(B4a l (idx (fun r=>decide (B2n x.2.1 x.2.2 r=key)) l).toNat,(0,()))else([],(5,())))else([],(1,()))
theorem C0g {x:B26}{l:B2s}(h:B3t x l=true):∀r∈l,r.length=x.2.1.length:=fun r hr=>B7d ((B70 h).2.2 r hr)
theorem D8o:EV fun n=>∀(x:B26) (l:B2s) (key:B2m),B3f 1048576 x→B52 1048576 l→C3h n x.1 x.2.1 x.2.2 l key=some (C97 x l key):=(B9t.and (C5u.and (D0y.and (B8d.and (EV.gt 0))))).up fun n ⟨h1,h2,h3,h4,hn⟩ x l key hs hl=>by
 obtain⟨m,rfl⟩:∃m,n=m+1:=⟨n - 1,by omega⟩
 simp only[C3h,h1 x l hs hl.1,h3 x key hs,zC,C97]
 cases hr:B3t x l
 ·simp
 simp only[zT,zA,if_true,h2 x l key hs hl.1 (B70 hr).1 (C0g hr),zC,h4 l hl,B3j]
 cases hk:D4t x key
 ·simp
 obtain⟨b1,b2⟩:=C2r (fun r:B7k=>decide (B2n x.2.1 x.2.2 r=key)) l
 generalize idx (fun r:B7k=>decide (B2n x.2.1 x.2.2 r=key)) l=i at b1 b2
 have:=hl.1
 by_cases c:i<0
 ·rw[zD c,if_neg (fun h=>absurd h.2 (by omega))];rfl
 ·obtain⟨i,rfl⟩:=Int.eq_ofNat_of_zero_le (show 0≤i by omega)
  rw[zK c,if_pos ⟨rfl,by omega⟩]
  have hi:i<l.length:=by omega
  simp only[zT,zA,zC,zE,B28 hi (by omega),E8g hi]
theorem C9h:B52 1048576 []:=⟨Nat.zero_le _,by simp⟩
theorem E71 {l:B2s}{i:Nat}(h:B52 1048576 l):B52 1048576 (B4a l i):=⟨Nat.le_trans (C95 l i) h.1,fun r hr=>h.2 r (C5q hr)⟩
theorem C3u:∀{x y z:List UInt8},Op.bytesLess x y=true→Op.bytesLess y z=true→Op.bytesLess x z=true
 |_,[],_,h,_=>by cases ‹List UInt8›<;>simp[Op.bytesLess]at h
 |_,_::_,[],_,h=>by simp[Op.bytesLess]at h
 |[],_::_,_::_,_,_=>by simp[Op.bytesLess]
 |a::x,b::y,c::z,h1,h2=>by
  simp only[Op.bytesLess,Bool.or_eq_true,zJ,zG,beq_iff_eq]at h1 h2⊢
  rcases h1 with h1|⟨rfl,h1⟩
  ·rcases h2 with h2|⟨rfl,_⟩
   ·exact .inl (UInt8.lt_trans h1 h2)
   ·exact .inl h1
  ·rcases h2 with h2|⟨rfl,h2⟩
   ·exact .inl h2
   ·exact .inr ⟨rfl,C3u h1 h2⟩
theorem E2p {x y z:B3m}(h1:B7l x y=true)(h2:B7l y z=true):B7l x z=true:=by
 obtain⟨a,b,s⟩:=x;obtain⟨c,d,t⟩:=y;obtain⟨e,f,u⟩:=z
 simp only[B7l,zJ]at h1 h2⊢
 refine⟨⟨h1.1.1,h2.1.2⟩,?_⟩
 have k1:=h1.2;have k2:=h2.2
 by_cases e1:a=c
 ·subst e1
  rw[if_pos rfl]at k1
  by_cases e2:a=e
  ·subst e2
   rw[if_pos rfl]at k2⊢
   by_cases e3:b=d
   ·subst e3
    rw[if_pos rfl]at k1
    by_cases e4:b=f
    ·subst e4;rw[if_pos rfl]at k2⊢;exact C3u k1 k2
    ·rw[if_neg e4]at k2⊢;exact k2
   ·rw[if_neg e3,zG]at k1
    by_cases e4:d=f
    ·subst e4;rw[if_neg e3];exact zD k1
    ·rw[if_neg e4,zG]at k2
     rw[if_neg (by omega)];exact zD (by omega)
  ·rw[if_neg e2]at k2⊢;exact k2
 ·rw[if_neg e1,zG]at k1
  by_cases e2:c=e
  ·subst e2;rw[if_neg e1];exact zD k1
  ·rw[if_neg e2,zG]at k2
   rw[if_neg (by omega)];exact zD (by omega)
def E6u (a:B2m):Prop:=∀v∈a,B3x v.1 v.2.1 v.2.2=true
theorem C8v:∀{a b:B2m},a.length=b.length→E6u a→E6u b→(B3s a b&&B3s b a)=false∧(B3s a b||B3s b a)= !decide (a=b)
 |[],[],_,_,_=>by simp[B3s]
 |[],_::_,h,_,_=>by simp at h
 |_::_,[],h,_,_=>by simp at h
 |x::s,y::t,h,ha,hb=>by
  have ih:=C8v (a:=s) (b:=t) (by simpa using h) (fun v hv=>ha v (zF _ hv)) (fun v hv=>hb v (zF _ hv))
  have hv:=E5o (ha x (zM ..)) (hb y (zM ..))
  simp only[B3s]
  by_cases e:x=y
  ·subst e;simp only[if_true,List.cons.injEq,true_and];exact ih
  ·rw[if_neg e,if_neg (fun h=>e h.symm)]
   refine⟨hv.1,?_⟩
   rw[hv.2,zK e,zK (fun h=>e (List.cons.inj h).1)]
theorem D11:∀{a b c:B2m},a.length=b.length→b.length=c.length→E6u a→E6u b→E6u c→B3s a b=true→B3s b c=true→B3s a c=true
 |[],[],_,_,_,_,_,_,h,_=>by simp[B3s]at h
 |[],_::_,_,h,_,_,_,_,_,_=>by simp at h
 |_::_,[],_,h,_,_,_,_,_,_=>by simp at h
 |_::_,_::_,[],_,h,_,_,_,_,_=>by simp at h
 |x::s,y::t,z::u,h1,h2,ha,hb,hc,k1,k2=>by
  simp only[B3s]at k1 k2⊢
  by_cases e1:x=y
  ·subst e1
   rw[if_pos rfl]at k1
   by_cases e2:x=z
   ·subst e2
    rw[if_pos rfl]at k2⊢
    exact D11 (by simpa using h1) (by simpa using h2) (fun v hv=>ha v (zF _ hv)) (fun v hv=>hb v (zF _ hv)) (fun v hv=>hc v (zF _ hv)) k1 k2
   ·rw[if_neg e2]at k2⊢;exact k2
  ·rw[if_neg e1]at k1
   by_cases e2:y=z
   ·subst e2;rw[if_neg e1];exact k1
   ·rw[if_neg e2]at k2
    have k3:=E2p k1 k2
    by_cases e3:x=z
    ·subst e3
     have:=(E5o (ha x (zM ..)) (hb y (zM ..))).1
     rw[k1,k2]at this;cases this
    ·rw[if_neg e3];exact k3
theorem C3l {x:B26}(ht:B2g x=true){r:B7k}(hr:B5g x.2.1 r=true):E6u (B2n x.2.1 x.2.2 r):=by
 intro v hv
 simp only[B2n,List.mem_map]at hv
 obtain⟨key,hk,rfl⟩:=hv
 obtain⟨h1,h2,_⟩:=(B8s ht).1 key hk
 simp only[B5g,zJ,zG]at hr
 have hi:(B2t x.2.1 key).toNat<x.2.1.length:=by omega
 have:=(B4u _ _ _).mp hr.2 _ hi
 simp only[zS,B9r]at this
 generalize r.getD (B2t x.2.1 key).toNat C3n=v at this
 revert this
 cases B3x v.1 v.2.1 v.2.2<;>simp
theorem E0t {α T:Type}(p:α→Bool)(l:List α)(L:Nat→Nat→T)(R:Nat→T)(hexit:∀j,L (j+1) l.length=R l.length)(hstep:∀j k (h:k<l.length),L (j+1) k=if p l[k]=true then L j (k+1)else R k):
  ∀(t:List α) (j k:Nat),l.drop k=t→k≤l.length→t.length<j→L j k=R (k+(t.takeWhile p).length)
 |[],j+1,k,hd,hk,_=>by
  have:k=l.length:=by
   rcases zE1 k l.length with h'|h'
   ·rw[zC1 h']at hd;cases hd
   ·omega
  subst this;rw[hexit];rfl
 |x::t,j+1,k,hd,hk,hj=>by
  obtain⟨h2,h3,h4⟩:=B36 hd x
  have hx:l[k]=x:=by simpa[List.getD,h2]using h3
  rw[hstep j k h2,hx]
  by_cases hp:p x=true
  ·rw[if_pos hp,E0t p l L R hexit hstep t j (k+1) h4 (by omega) (by simp at hj;omega),List.takeWhile_cons_of_pos hp]
   simp only[zW];congr 1;omega
  ·rw[if_neg hp,List.takeWhile_cons_of_neg hp];rfl
theorem takeWhile_take {α:Type}(p:α→Bool):∀l:List α,l.take (l.takeWhile p).length=l.takeWhile p∧l.drop (l.takeWhile p).length=l.dropWhile p
 |[]=>by simp
 |x::t=>by
  obtain⟨h1,h2⟩:=takeWhile_take p t
  by_cases hp:p x=true
  ·simp[List.takeWhile_cons_of_pos hp,List.dropWhile_cons_of_pos hp,h1,h2]
  ·simp[List.takeWhile_cons_of_neg hp,List.dropWhile_cons_of_neg hp]
theorem E4s {α:Type}(p:α→Bool)(l:List α):(l.takeWhile p).length≤l.length:=by
 have:=congrArg List.length (takeWhile_take p l).1
 rw[List.length_take]at this;omega
def C2m (x:B26)(r y:B7k):Bool:=B3s (B2n x.2.1 x.2.2 y) (B2n x.2.1 x.2.2 r)
def B85 (x:B26)(l:B2s)(r:B7k):B2s:=l.takeWhile (C2m x r)++[r]++l.dropWhile (C2m x r)
theorem F1i {α:Type}{l:List α}{i:Nat}{r:α}(h:i≤l.length)(hl:l.length≤1048576):B1k 24 l (i:Int) [r]=some (l.take i++[r]++l.drop i):=by
 unfold B1k
 rw[zD ⟨rfl,by omega,by omega⟩]
 have:room (l.length+1) 24=true:=by simp only[room,zG];omega
 rw[this];rfl
theorem F0k {α:Type}(o:Option α):(o.bind fun r=>some r)=o:=by cases o<;>rfl
theorem C8u:EV fun n=>∀(x:B26) (l:B2s) (r:B7k),B3f 1048576 x→B52 1048576 l→r.length≤1048576→B2g x=true→(∀y∈l,y.length=x.2.1.length)→r.length=x.2.1.length→C1k n x.1 x.2.1 x.2.2 l r=some (B85 x l r):=
 (C0y.and (C7d.and (B8d.and (C6c.and (EV.gt 1048577))))).up fun n ⟨h1,h2,h3,h4,hn⟩ x l r hs hl hr ht hy hr2=>by
 have hll:=hl.1
 obtain⟨m,rfl⟩:∃m,n=m+1:=⟨n - 1,by omega⟩
 simp only[C1k]
 refine(E0t (C2m x r) l (fun j k=>B8i (m+1) j l (k:Int) x.1 x.2.1 x.2.2 r) (fun k=>B1k 24 l (k:Int) [r]) (fun j=>?_) (fun j k hk=>?_) l (m+1) 0 rfl (by omega) (by omega)).trans ?_
 ·simp only[B8i,B27,zP,zH,zA,h3 l hl,h4 r hr,zC,B3w,F0k]
 ·have e:=h2 (B2n x.2.1 x.2.2 l[k]) (B2n x.2.1 x.2.2 r) (by rw[B5t];exact hs.2.2.1)
  simp only[B8i,B27,zD hk,B25 hk,zE,getD_at hk,zB,B28 hk (by omega),h1 x l[k] hs ht (hy _ (zL hk)),h1 x r hs ht hr2,e,zC,h3 l hl,h4 r hr,B3w,F0k,C2m]
  exact B76 _ _
 ·have:=E4s (C2m x r) l
  rw[zS,F1i this hll,(takeWhile_take _ _).1,(takeWhile_take _ _).2];rfl
def C37 (x:B26)(r:B7k)(y:B7k)(s:Bool×B2s):Bool×B2s:=if s.1=true then(true,s.2++[y])else if B3s (B2n x.2.1 x.2.2 r) (B2n x.2.1 x.2.2 y)=true then(true,s.2++[r]++[y])else(false,s.2++[y])
def D1h (r:B7k)(s:Bool×B2s):B2s:=if s.1=true then s.2 else s.2++[r]
theorem E5m (x:B26)(r:B7k):∀(t:B2s) (k:Nat) (acc:B2s),C0q (fun _=>C37 x r) k t (true,acc)=(true,acc++t)
 |[],k,acc=>by simp[C0q]
 |y::t,k,acc=>by
  simp only[C0q,C37,if_true]
  rw[E5m x r t];simp
theorem lay_all (x:B26)(r:B7k):∀(t:B2s) (k:Nat) (acc:B2s),(∀y∈t,B3s (B2n x.2.1 x.2.2 r) (B2n x.2.1 x.2.2 y)= !C2m x r y)→D1h r (C0q (fun _=>C37 x r) k t (false,acc))=acc++B85 x t r
 |[],k,acc,_=>by simp[C0q,D1h,B85]
 |y::t,k,acc,h=>by
  have hy:=h y (zM ..)
  simp only[C0q,C37,Bool.false_eq_true,if_false]
  cases hp:C2m x r y
  ·rw[hp]at hy
   rw[if_pos (by simpa using hy),E5m]
   simp[D1h,B85,List.takeWhile_cons_of_neg (show¬C2m x r y=true by simp[hp]),List.dropWhile_cons_of_neg (show¬C2m x r y=true by simp[hp])]
  ·rw[hp]at hy
   rw[if_neg (by simp[hy]),lay_all x r t _ _ fun z hz=>h z (zF _ hz)]
   simp[B85,List.takeWhile_cons_of_pos hp,List.dropWhile_cons_of_pos hp]
theorem D9h:EV fun n=>∀(x:B26) (l:B2s) (r:B7k),B3f 1048576 x→B52 1048576 l→r.length≤1048576→B2g x=true→(∀y∈l,y.length=x.2.1.length)→r.length=x.2.1.length→
  C5n n x.1 x.2.1 x.2.2 l r=some (D1h r (C0q (fun _=>C37 x r) 0 l (false,[]))):=(C2d.and (C3y.and (D9i.and (EV.gt 1048577)))).up fun n ⟨h1,h2,h3,hn⟩ x l r hs hl hr ht hy hr2=>by
 have hll:=hl.1
 simp only[C5n]
 refine C4p l (fun _=>C37 x r) (fun j k (s:Bool×B2s)=>B5k n j s.1 l (l.length:Int) (k:Int) x.1 x.2.1 x.2.2 r s.2) (fun s=>some (D1h r s)) (fun k s=>(s.1=false→s.2.length≤k)∧s.2.length≤k+1) (fun k hk s h1=>?_) (fun j s h=>?_) (fun j k s hk ha=>?_) l n 0 (false,[]) rfl (by omega) (by omega) ⟨fun _=>Nat.le_refl 0,Nat.zero_le _⟩
 ·obtain⟨b,acc⟩:=s
  obtain⟨h1,h2⟩:=h1
  cases b
  ·have:=h1 rfl
   simp only[C37,Bool.false_eq_true,if_false]
   split
   ·refine⟨fun h=>(by cases h),?_⟩
    simp;dsimp only at this;omega
   ·refine⟨fun _=>?_,?_⟩<;>(simp;dsimp only at this;omega)
  ·simp only[C37,if_true]
   refine⟨fun h=>(by cases h),?_⟩
   simp;dsimp only at h2;omega
 ·obtain⟨h0,h⟩:=h
  have r3:room (s.2.length+[r].length) 24=true:=by simp only[room,zG,zW,zX];omega
  simp only[B5k,B27,zP,zH,zA,h3 r hr,zC,r3,zB,D1h]
  cases s.1<;>rfl
 ·obtain⟨_,ha⟩:=ha
  have e:=h3 l[k] (hl.2 _ (zL hk)).1
  have e2:=h2 (B2n x.2.1 x.2.2 r) (B2n x.2.1 x.2.2 l[k]) (by rw[B5t];exact hs.2.2.1)
  have r3:∀y:B2m,room (s.2.length+[y].length) 24=true:=fun y=>by simp only[room,zG,zW,zX];omega
  have r4:∀y z:B2m,room ((s.2++[y]).length+[z].length) 24=true:=fun y z=>by simp only[room,zG,List.length_append,zW,zX];omega
  simp only[B5k,B27,zD hk,B25 hk,zE,getD_at hk,zB,B28 hk (by omega),e,h3 r hr,h1 x r hs ht hr2,h1 x l[k] hs ht (hy _ (zL hk)),e2,zC,r3,r4,C37]
  obtain⟨b,acc⟩:=s
  cases b
  ·cases B3s (B2n x.2.1 x.2.2 r) (B2n x.2.1 x.2.2 l[k])<;>rfl
  ·rfl
theorem E5g {α:Type}(p:α→Bool):∀(l:List α) (k:Nat),idxFrom p l k= -1↔∀y∈l,p y=false
 |[],k=>by simp[idxFrom]
 |x::t,k=>by
  simp only[idxFrom,List.mem_cons,forall_eq_or_imp]
  by_cases h:p x=true
  ·rw[if_pos h]
   constructor
   ·intro e;omega
   ·intro e;rw[e.1]at h;cases h
  ·rw[if_neg h,E5g p t (k+1)]
   simp at h
   simp[h]
theorem C9b {α:Type}(p:α→Bool)(l:List α):¬0≤idx p l↔∀y∈l,p y=false:=by
 rw[←E5g p l 0]
 have:=(C2r p l).1
 unfold idx at this⊢
 omega
theorem E6w {x:B26}{l:B2s}{r:B7k}(ht:B2g x=true)(hl:∀y∈l,B5g x.2.1 y=true)(hr:B5g x.2.1 r=true)(hk:∀y∈l,B2n x.2.1 x.2.2 y≠B2n x.2.1 x.2.2 r):
  D1h r (C0q (fun _=>C37 x r) 0 l (false,[]))=B85 x l r:=by
 rw[lay_all x r l 0 [] fun y hy=>?_]
 ·rfl
 ·obtain⟨h1,h2⟩:=C8v (a:=B2n x.2.1 x.2.2 y) (b:=B2n x.2.1 x.2.2 r) (by rw[B5t,B5t]) (C3l ht (hl y hy)) (C3l ht hr)
  rw[zK (hk y hy)]at h2
  unfold C2m
  revert h1 h2
  cases B3s (B2n x.2.1 x.2.2 y) (B2n x.2.1 x.2.2 r)<;>cases B3s (B2n x.2.1 x.2.2 r) (B2n x.2.1 x.2.2 y)<;>simp
theorem E6y {x:B26}{l:B2s}{r y:B7k}(h:y∈B85 x l r):y∈l∨y=r:=by
 unfold B85 at h
 simp only[zY,zF1]at h
 rcases h with(h|h)|h
 ·exact .inl (by rw[←List.takeWhile_append_dropWhile (p:=C2m x r) (l:=l)];exact zZ _ h)
 ·exact .inr h
 ·exact .inl (by rw[←List.takeWhile_append_dropWhile (p:=C2m x r) (l:=l)];exact zA1 _ h)
theorem E6x (x:B26)(l:B2s)(r:B7k):(B85 x l r).length=l.length+1:=by
 have:=congrArg List.length (List.takeWhile_append_dropWhile (p:=C2m x r) (l:=l))
 simp only[List.length_append]at this
 simp[B85];omega
def B7z (x:B26)(l:B2s)(key:B2m):Int:=idx (fun r=>decide (B2n x.2.1 x.2.2 r=key)) l
def C09 (x:B26)(l:B2s)(r:B7k):B2s×(Int×Unit):=
 if B3t x l=true then(if B5g x.2.1 r=true then(if 0≤B7z x l (B2n x.2.1 x.2.2 r)then([],(3,()))else if l.length=60 then([],(4,()))else(B85 x l r,(0,())))else([],(2,())))else([],(1,()))
theorem F08 {x:B26}{l:B2s}{key:B2m}(h:¬0≤B7z x l key):∀y∈l,B2n x.2.1 x.2.2 y≠key:=fun y hy e=>by
 have:=(C9b _ _).mp h y hy
 rw[zD e]at this;cases this
theorem D9e:EV fun n=>∀(x:B26) (l:B2s) (r:B7k),B3f 1048576 x→B52 1048576 l→r.length≤1048576→C5g n x.1 x.2.1 x.2.2 l r=some (C09 x l r):=(C52.and (D14.and (C2d.and (E1k.and D9h)))).up fun n ⟨h1,h2,h3,h4,h5⟩ x l r hs hl hrl=>by
 simp only[C5g,h1 x l hs hl.1,h2 x r hs,zC,C09,B39]
 cases hr:B3t x l
 ·simp
 have ht:=(B70 hr).1
 simp only[zT,zA,if_true,ht,zG1]
 cases hi:B5g x.2.1 r
 ·simp
 simp only[zT,zA,if_true,h3 x r hs ht (B7d hi),h4 x l _ hs hl.1,zC,E6d,hr]
 rw[show idx (fun y=>decide (B2n x.2.1 x.2.2 y=B2n x.2.1 x.2.2 r)) l=B7z x l (B2n x.2.1 x.2.2 r)from rfl]
 by_cases c:0≤B7z x l (B2n x.2.1 x.2.2 r)
 ·rw[zD c,if_pos c];rfl
 ·rw[zK c,if_neg c]
  by_cases c2:l.length=60
  ·rw[zD (by omega),if_pos c2];rfl
  ·rw[zK (by omega),if_neg c2,h5 x l r hs hl hrl ht (C0g hr) (B7d hi),E6w ht (B70 hr).2.2 hi (F08 c)];rfl
theorem D8p:EV fun n=>∀(x:B26) (l:B2s) (r:B7k),B3f 1048576 x→B52 1048576 l→r.length≤1048576→C3i n x.1 x.2.1 x.2.2 l r=some (C09 x l r):=(B9t.and (C5v.and (C0y.and (C5u.and C8u)))).up fun n ⟨h1,h2,h3,h4,h5⟩ x l r hs hl hrl=>by
 simp only[C3i,h1 x l hs hl.1,zC,C09,B39]
 cases hr:B3t x l
 ·simp
 have ht:=(B70 hr).1
 simp only[zT,zA,if_true,h2 x r hs ht,zC]
 cases hi:B5g x.2.1 r
 ·simp
 simp only[zT,zA,if_true,h3 x r hs ht (B7d hi),h4 x l _ hs hl.1 ht (C0g hr),zC]
 rw[show idx (fun y=>decide (B2n x.2.1 x.2.2 y=B2n x.2.1 x.2.2 r)) l=B7z x l (B2n x.2.1 x.2.2 r)from rfl]
 by_cases c:0≤B7z x l (B2n x.2.1 x.2.2 r)
 ·rw[zD c,if_pos c];rfl
 ·rw[zK c,if_neg c]
  by_cases c2:l.length=60
  ·rw[zD (by omega),if_pos c2];rfl
  ·rw[zK (by omega),if_neg c2,h5 x l r hs hl hrl ht (C0g hr) (B7d hi)];rfl
theorem C3o {x:B26}{l:B2s}(h:B3t x l=true):∀i j (hi:i<j) (hj:j<l.length),B3s (B2n x.2.1 x.2.2 l[i]) (B2n x.2.1 x.2.2 l[j])=true:=by
 obtain⟨ht,_,hin⟩:=B70 h
 simp only[B3t,zJ]at h
 have hstep:∀k (hk:k+1<l.length),B3s (B2n x.2.1 x.2.2 l[k]) (B2n x.2.1 x.2.2 l[k+1])=true:=fun k hk=>by
  have:=(B4u _ _ _).mp h.2 (k+1) hk
  simp only[zS,B41,zJ,Nat.add_sub_cancel,getD_at (show k<l.length by omega)]at this
  simpa using this.2
 intro i j hi
 induction j with
 |zero=>omega
 |succ j ih=>
  intro hj
  by_cases e:i=j
  ·subst e;exact hstep i hj
  ·have k1:=ih (by omega) (by omega)
   have hv:∀q (hq:q<l.length),E6u (B2n x.2.1 x.2.2 l[q]):=fun q hq=>C3l ht (hin _ (zL hq))
   exact D11 (by rw[B5t,B5t]) (by rw[B5t,B5t]) (hv _ _) (hv _ _) (hv _ _) k1 (hstep j hj)
theorem C90 {x:B26}{l:B2s}(ht:B2g x=true)(hl:l.length≤60)(hin:∀r∈l,B5g x.2.1 r=true)(hs:∀k (hk:k+1<l.length),B3s (B2n x.2.1 x.2.2 l[k]) (B2n x.2.1 x.2.2 l[k+1])=true):B3t x l=true:=by
 simp only[B3t,ht,zD hl,zG1]
 refine(B4u _ _ _).mpr fun i hi=>?_
 simp only[zS,B41,hin _ (zL hi),zG1,Bool.or_eq_true,zG]
 cases i with
 |zero=>exact .inl rfl
 |succ i=>
  right
  rw[Nat.add_sub_cancel,getD_at (show i<l.length by omega)]
  exact hs i hi
theorem C94 {α:Type}{l:List α}{i j:Nat}(hj:j<(B4a l i).length):∃(h:(if j<i then j else j+1)<l.length),(B4a l i)[j]=l[(if j<i then j else j+1)]:=by
 have hl:(B4a l i).length=min i l.length+(l.length - (i+1)):=by simp[B4a]
 by_cases c:j<i
 ·rw[if_pos c]
  refine⟨by omega,?_⟩
  simp only[B4a]
  rw[List.getElem_append_left (by simp;omega),List.getElem_take]
 ·rw[if_neg c]
  refine⟨by omega,?_⟩
  simp only[B4a]
  rw[List.getElem_append_right (by simp;omega),List.getElem_drop]
  congr 1;simp;omega
theorem E42 {x:B26}{l:B2s}(h:B3t x l=true)(i:Nat):B3t x (B4a l i)=true:=by
 obtain⟨ht,hlen,hin⟩:=B70 h
 refine C90 ht (Nat.le_trans (C95 l i) hlen) (fun r hr=>hin r (C5q hr)) fun k hk=>?_
 obtain⟨a1,a2⟩:=C94 (l:=l) (i:=i) (j:=k) (by omega)
 obtain⟨b1,b2⟩:=C94 (l:=l) (i:=i) (j:=k+1) hk
 rw[a2,b2]
 refine C3o h _ _ ?_ b1
 split<;>split<;>omega
theorem E5l {x:B26}{l:B2s}(h:B3t x l=true){i j:Nat}(hi:i<l.length)(hj:j<l.length)(e:B2n x.2.1 x.2.2 l[i]=B2n x.2.1 x.2.2 l[j]):i=j:=by
 have irr:∀q (hq:q<l.length),B3s (B2n x.2.1 x.2.2 l[q]) (B2n x.2.1 x.2.2 l[q])=false:=fun q hq=>by
  obtain⟨ht,_,hin⟩:=B70 h
  have:=(C8v (a:=B2n x.2.1 x.2.2 l[q]) (b:=B2n x.2.1 x.2.2 l[q]) rfl (C3l ht (hin _ (zL hq))) (C3l ht (hin _ (zL hq)))).1
  simpa using this
 rcases Nat.lt_trichotomy i j with c|c|c
 ·have:=C3o h i j c hj;rw[e,irr j hj]at this;cases this
 ·exact c
 ·have:=C3o h j i c hi;rw[e,irr j hj]at this;cases this
theorem C8p {α:Type}(p:α→Bool):∀(l:List α) (k i:Nat),idxFrom p l k=((k+i:Nat):Int)→∃h:i<l.length,p l[i]=true
 |[],k,i,h=>by simp only[idxFrom]at h;omega
 |x::t,k,i,h=>by
  simp only[idxFrom]at h
  split at h
  ·rename_i hp
   obtain rfl:i=0:=by omega
   exact⟨by simp,hp⟩
  ·rcases D4z p t (k+1)with e|e
   ·omega
   ·obtain⟨i,rfl⟩:∃i',i=i'+1:=⟨i - 1,by omega⟩
    obtain⟨h1,h2⟩:=C8p p t (k+1) i (by rw[h];congr 1;omega)
    exact⟨by simp;exact h1,by simpa using h2⟩
theorem E4u {α:Type}{l:List α}{i j:Nat}(hj:j<l.length)(h:j≠i):l[j]∈B4a l i:=by
 rcases Nat.lt_or_gt_of_ne h with c|c
 ·exact zZ _ (List.mem_iff_getElem.mpr ⟨j,by simp;omega,by rw[List.getElem_take]⟩)
 ·exact zA1 _ (List.mem_iff_getElem.mpr ⟨j - (i+1),by simp;omega,by rw[List.getElem_drop];congr 1;omega⟩)
def C98 (x:B26)(l:B2s)(key:B2m)(r:B7k):B2s×(Int×Unit):=
 if B3t x l=true then(if B5g x.2.1 r=true then(if D4t x key=true∧0≤B7z x l key then
  (if 0≤B7z x (B4a l (B7z x l key).toNat) (B2n x.2.1 x.2.2 r)then([],(3,()))else(B85 x (B4a l (B7z x l key).toNat) r,(0,())))else([],(5,())))else([],(2,())))else([],(1,()))
theorem E3v {α:Type}{p:α→Bool}{l:List α}(h:∃y∈l,p y=true):0≤idx p l:=by
 by_cases c:0≤idx p l
 ·exact c
 ·obtain⟨y,hy,hp⟩:=h
  rw[(C9b p l).mp c y hy]at hp;cases hp
theorem D8q:EV fun n=>∀(x:B26) (l:B2s) (key:B2m) (r:B7k),B3f 1048576 x→B52 1048576 l→key.length≤1048576→r.length≤1048576→C3j n x.1 x.2.1 x.2.2 l key r=some (C98 x l key r):=(B9t.and (C5v.and (C0y.and (C5u.and (C8u.and (D0y.and (B8d.and (C1d.and (EV.gt 0))))))))).up fun n ⟨h1,h2,h3,h4,h5,h6,h7,h8,hn⟩ x l key r hs hl hkl hrl=>by
 obtain⟨m,rfl⟩:∃m,n=m+1:=⟨n - 1,by omega⟩
 have hll:=hl.1
 simp only[C3j,h1 x l hs hl.1,h6 x key hs,zC,C98]
 cases hr:B3t x l
 ·simp
 have ht:=(B70 hr).1
 simp only[zT,zA,if_true,h2 x r hs ht,zC,h4 x l _ hs hl.1 ht (C0g hr)]
 cases hi:B5g x.2.1 r
 ·simp
 cases hk:D4t x key
 ·simp
 simp only[zT,zA,if_true,true_and,h3 x r hs ht (B7d hi),zC,h7 l hl,h4 x l _ hs hl.1 ht (C0g hr),B3j]
 rw[show idx (fun y=>decide (B2n x.2.1 x.2.2 y=key)) l=B7z x l key from rfl]
 have hat:∀i:Nat,B7z x l key=(i:Int)→∃h:i<l.length,B2n x.2.1 x.2.2 l[i]=key:=fun i e=>by
  obtain⟨a,b⟩:=C8p (fun y=>decide (B2n x.2.1 x.2.2 y=key)) l 0 i (by rw[zS];exact e)
  exact⟨a,of_decide_eq_true b⟩
 obtain⟨b1,b2⟩: -1≤B7z x l key∧B7z x l key<(l.length:Int):=C2r _ _
 generalize B7z x l key=i at b1 b2 hat
 by_cases c:i<0
 ·rw[zD c,if_neg (by omega)];rfl
 obtain⟨i,rfl⟩:=Int.eq_ofNat_of_zero_le (show 0≤i by omega)
 obtain⟨hil,hat⟩:=hat i rfl
 have hw:=E42 hr i
 rw[zK c,if_pos (by omega)]
 have e8:B3c (m+1) (B2n x.2.1 x.2.2 r) key=some (decide (B2n x.2.1 x.2.2 r=key)):=by first|exact h8 _ _ (by rw[B5t];exact hs.2.2.1)|exact h8 _ _ (by rw[B5t];exact hs.2.2.1) hkl
 simp only[zA,e8,zC,B28 hil (by omega),E8g hil,zE,h5 x (B4a l i) r hs (E71 hl) hrl ht (C0g hw) (B7d hi)]
 rw[show idx (fun y=>decide (B2n x.2.1 x.2.2 y=B2n x.2.1 x.2.2 r)) l=B7z x l (B2n x.2.1 x.2.2 r)from rfl]
 by_cases e:B2n x.2.1 x.2.2 r=key
 ·rw[zD e]
  have hno:¬0≤B7z x (B4a l i) (B2n x.2.1 x.2.2 r):=by
   refine(C9b _ _).mpr fun y hy=>zK fun hy2=>?_
   obtain⟨j,hj,rfl⟩:=List.mem_iff_getElem.mp hy
   obtain⟨g1,g2⟩:=C94 hj
   rw[g2,e,←hat]at hy2
   have:=E5l hr g1 hil hy2
   split at this<;>omega
  rw[if_neg hno];rfl
 ·rw[zK e]
  simp only[zU,zB]
  have hiff:0≤B7z x l (B2n x.2.1 x.2.2 r)↔0≤B7z x (B4a l i) (B2n x.2.1 x.2.2 r):=by
   constructor
   ·intro h
    obtain⟨q,hq⟩:=Int.eq_ofNat_of_zero_le h
    obtain⟨a,b⟩:=C8p (fun y=>decide (B2n x.2.1 x.2.2 y=B2n x.2.1 x.2.2 r)) l 0 q (by rw[zS];exact hq)
    refine E3v ⟨l[q],E4u a ?_,b⟩
    rintro rfl
    exact e ((of_decide_eq_true b).symm.trans hat)
   ·intro h
    obtain⟨q,hq⟩:=Int.eq_ofNat_of_zero_le h
    obtain⟨a,b⟩:=C8p (fun y=>decide (B2n x.2.1 x.2.2 y=B2n x.2.1 x.2.2 r)) (B4a l i) 0 q (by rw[zS];exact hq)
    exact E3v ⟨_,C5q (zL a),b⟩
  by_cases c2:0≤B7z x l (B2n x.2.1 x.2.2 r)
  ·rw[zD c2,if_pos (hiff.mp c2)];rfl
  ·rw[zK c2,if_neg (fun h=>c2 (hiff.mpr h))];rfl
def B98 (a b:ByteArray):Bool:=Op.bytesLess a.toList b.toList
theorem C1l (a:ByteArray):B98 a a=false:=by
 have:=(C2z a.toList a.toList).1
 rwa[Bool.and_self]at this
theorem C9d {a b:ByteArray}(h:B98 a b=false)(hne:a≠b):B98 b a=true:=by
 have:=(C2z a.toList b.toList).2
 have e:¬a.toList=b.toList:=fun e=>hne (by rw[E0n]at e;exact e)
 simp only[B98]at h⊢
 rw[h,Bool.false_or,zK e]at this
 exact this
theorem C3m {a b c:ByteArray}(h:B98 a b=true)(h2:B98 b c=true):B98 a c=true:=C3u h h2
theorem C8w {a b:ByteArray}(h:B98 a b=true):B98 b a=false:=by
 cases h2:B98 b a
 ·rfl
 ·have:=C3m h h2
  rw[C1l]at this;cases this
def C3r (l:List ByteArray):Prop:=l.Pairwise fun a b=>B98 a b=true
theorem D1n:∀l m:List ByteArray,C3r l→C3r m→(∀s,s∈l↔s∈m)→l=m
 |[],[],_,_,_=>rfl
 |[],b::m,_,_,h=>absurd ((h b).mpr (zM ..)) (by simp)
 |a::l,[],_,_,h=>absurd ((h a).mp (zM ..)) (by simp)
 |a::l,b::m,hl,hm,h=>by
  obtain⟨a1,a2⟩:=List.pairwise_cons.mp hl
  obtain⟨b1,b2⟩:=List.pairwise_cons.mp hm
  have hab:a=b:=by
   rcases List.mem_cons.mp ((h a).mp (zM ..))with e|e
   ·exact e
   ·rcases List.mem_cons.mp ((h b).mpr (zM ..))with e2|e2
    ·exact e2.symm
    ·have:=C3m (a1 b e2) (b1 a e)
     rw[C1l]at this;cases this
  subst hab
  congr 1
  refine D1n l m a2 b2 fun s=>⟨fun hs=>?_,fun hs=>?_⟩
  ·rcases List.mem_cons.mp ((h s).mp (zF _ hs))with e|e
   ·subst e;have:=a1 s hs;rw[C1l]at this;cases this
   ·exact e
  ·rcases List.mem_cons.mp ((h s).mpr (zF _ hs))with e|e
   ·subst e;have:=b1 s hs;rw[C1l]at this;cases this
   ·exact e
def E5i (s:ByteArray):List ByteArray→List ByteArray
 |[]=>[s]
 |x::t=>if B98 s x=true then s::x::t else x::E5i s t
def E5e (l:List ByteArray)(s:ByteArray):Bool:=l.any fun x=>decide (x=s)
theorem E5f (l:List ByteArray)(s:ByteArray):E5e l s=true↔s∈l:=by
 simp only[E5e,List.any_eq_true,zG]
 exact⟨fun⟨x,h,e⟩=>e▸h,fun h=>⟨s,h,rfl⟩⟩
def E7y (l:List ByteArray)(s:ByteArray):List ByteArray:=if E5e l s=true then l else E5i s l
theorem D8z (s y:ByteArray):∀l:List ByteArray,y∈E5i s l↔y=s∨y∈l
 |[]=>by simp[E5i]
 |x::t=>by
  simp only[E5i]
  split
  ·simp
  ·rw[List.mem_cons,D8z s y t,List.mem_cons]
   constructor
   ·rintro(h|h|h)
    ·exact .inr (.inl h)
    ·exact .inl h
    ·exact .inr (.inr h)
   ·rintro(h|h|h)
    ·exact .inr (.inl h)
    ·exact .inl h
    ·exact .inr (.inr h)
theorem D62 {s:ByteArray}:∀{l:List ByteArray},C3r l→s∉l→C3r (E5i s l)
 |[],_,_=>by simp[E5i,C3r]
 |x::t,h,hs=>by
  obtain⟨h1,h2⟩:=List.pairwise_cons.mp h
  simp only[E5i]
  split
  ·rename_i c
   refine List.pairwise_cons.mpr ⟨fun y hy=>?_,h⟩
   rcases List.mem_cons.mp hy with e|e
   ·subst e;exact c
   ·exact C3m c (h1 y e)
  ·rename_i c
   refine List.pairwise_cons.mpr ⟨fun y hy=>?_,D62 h2 fun hm=>hs (zF _ hm)⟩
   rcases(D8z s y t).mp hy with e|e
   ·subst e
    exact C9d (by simpa using c) fun e=>hs (by rw[e];exact zM ..)
   ·exact h1 y e
theorem E7z (l:List ByteArray)(s y:ByteArray):y∈E7y l s↔y∈l∨y=s:=by
 unfold E7y
 split
 ·constructor
  ·exact .inl
  ·rintro(h|h)
   ·exact h
   ·subst h;exact(E5f _ _).mp (by assumption)
 ·rw[D8z];exact⟨Or.symm,Or.symm⟩
theorem E4z {l:List ByteArray}{s:ByteArray}(h:C3r l):C3r (E7y l s):=by
 unfold E7y
 split
 ·exact h
 ·exact D62 h fun hm=>absurd ((E5f _ _).mpr hm) (by assumption)
def tAt (l:B2o)(s:ByteArray):Int:=idx (fun t:B26=>decide (t.1=s)) l
theorem C39 {l:B2o}{s:ByteArray}:0≤tAt l s↔∃t∈l,t.1=s:=by
 constructor
 ·intro h
  refine Classical.byContradiction fun hn=>?_
  refine(C9b (fun t:B26=>decide (t.1=s)) l).mpr (fun t ht=>?_) h
  exact zK fun e=>hn ⟨t,ht,e⟩
 ·rintro⟨t,ht,e⟩
  exact E3v ⟨t,ht,zD e⟩
theorem C2n {l:B2o}(h:B68 l=true):∀i j (hi:i<j) (hj:j<l.length),B98 l[i].1 l[j].1=true:=by
 have hstep:∀k (hk:k+1<l.length),B98 l[k].1 l[k+1].1=true:=fun k hk=>by
  simp only[B68,zJ,zG]at h
  have:=C1h h.2 hk
  simp only[B4q,zJ,Bool.or_eq_true,zG]at this
  rcases this.2 with e|e
  ·omega
  ·simp only[Nat.add_sub_cancel]at e
   rw[getD_at (show k<l.length by omega)]at e
   exact e
 intro i j hi
 induction j with
 |zero=>omega
 |succ j ih=>
  intro hj
  rcases zE1 i j with c|c
  ·exact C3m (ih c (by omega)) (hstep j hj)
  ·have:i=j:=by omega
   subst this;exact hstep _ hj
theorem D5h {l:B2o}(h:B68 l=true){k:Nat}(hk:k<l.length):tAt l l[k].1=(k:Int):=by
 have hp:0≤tAt l l[k].1:=C39.mpr ⟨l[k],zL hk,rfl⟩
 obtain⟨i,e⟩:=Int.eq_ofNat_of_zero_le hp
 obtain⟨hi,e2⟩:=C8p (fun t:B26=>decide (t.1=l[k].1)) l 0 i (by rw[zS];exact e)
 rw[zG]at e2
 rw[e]
 rcases zE1 i k with c|c
 ·have:=C2n h i k c hk
  rw[e2,C1l]at this;cases this
 ·rcases zE1 k i with c2|c2
  ·have:=C2n h k i c2 hi
   rw[e2,C1l]at this;cases this
  ·have:i=k:=by omega
   rw[this]
def C3c (a b:B4z)(s:ByteArray):Bool:=
 decide (0≤tAt a.1 s∧0≤tAt b.1 s∧a.1.getD (tAt a.1 s).toNat C27=b.1.getD (tAt b.1 s).toNat C27∧a.2.getD (tAt a.1 s).toNat []=b.2.getD (tAt b.1 s).toNat [])
theorem D3o {a b:B4z}{s:ByteArray}(h:C3c a b s=true):0≤tAt a.1 s∧0≤tAt b.1 s:=by
 simp only[C3c,zG]at h
 exact⟨h.1,h.2.1⟩
def C3e (a b:B4z)(t:B26)(acc:List ByteArray):List ByteArray:=if C3c a b t.1=true then acc else E7y acc t.1
def D0w (a b:B4z):List ByteArray:=if B4f a=true∧B4f b=true then C0q (fun _=>C3e a b) 0 (a.1++b.1) []else []
theorem C99 (a b:B4z):∀(l:B2o) (k:Nat) (acc:List ByteArray),C3r acc→C3r (C0q (fun _=>C3e a b) k l acc)∧∀s,s∈C0q (fun _=>C3e a b) k l acc↔s∈acc∨∃t∈l,t.1=s∧C3c a b s=false
 |[],k,acc,h=>⟨h,fun s=>by simp[C0q]⟩
 |t::l,k,acc,h=>by
  have hr:C3r (C3e a b t acc):=by
   unfold C3e
   split
   ·exact h
   ·exact E4z h
  obtain⟨h1,h2⟩:=C99 a b l (k+1) (C3e a b t acc) hr
  refine⟨h1,fun s=>?_⟩
  simp only[C0q]
  rw[h2]
  have hm:s∈C3e a b t acc↔s∈acc∨(t.1=s∧C3c a b s=false):=by
   unfold C3e
   split
   ·rename_i c
    constructor
    ·exact .inl
    ·rintro(h|⟨e,h⟩)
     ·exact h
     ·rw[e]at c;rw[c]at h;cases h
   ·rename_i c
    rw[E7z]
    constructor
    ·rintro(h|h)
     ·exact .inl h
     ·subst h;exact .inr ⟨rfl,by simpa using c⟩
    ·rintro(h|⟨e,_⟩)
     ·exact .inl h
     ·exact .inr e.symm
  rw[hm]
  constructor
  ·rintro((h|h)|⟨x,hx,h⟩)
   ·exact .inl h
   ·exact .inr ⟨t,zM ..,h⟩
   ·exact .inr ⟨x,zF _ hx,h⟩
  ·rintro(h|⟨x,hx,h⟩)
   ·exact .inl (.inl h)
   ·rcases List.mem_cons.mp hx with e|e
    ·subst e;exact .inl (.inr h)
    ·exact .inr ⟨x,e,h⟩
theorem C8y {p:B26→Bool}:∀(l:B2o) (k:Nat) (acc:List ByteArray),C0q (fun _ t (s:List ByteArray)=>if p t=true then s++[t.1]else s) k l acc=acc++(l.filter p).map (·.1)
 |[],k,acc=>by simp[C0q]
 |t::l,k,acc=>by
  simp only[C0q]
  rw[C8y l (k+1)]
  by_cases c:p t=true
  ·simp[c]
  ·simp[c]
theorem D63 {l:B2o}(h:B68 l=true)(p:B26→Bool):((l.filter p).map (·.1)).Nodup:=by
 have h1:l.Pairwise fun x y=>B98 x.1 y.1=true:=List.pairwise_iff_getElem.mpr fun i j hi hj hij=>C2n h i j hij hj
 refine List.pairwise_map.mpr ((h1.filter p).imp fun{x y} hxy e=>?_)
 rw[e,C1l]at hxy;cases hxy
theorem E5y {l:List ByteArray}(h:l.Nodup):C3r (l.mergeSort fun a b=> !Op.bytesLess b.toList a.toList):=by
 have h1:(l.mergeSort fun a b=> !Op.bytesLess b.toList a.toList).Pairwise fun a b=>(!Op.bytesLess b.toList a.toList)=true:=by
  refine List.pairwise_mergeSort (fun a b c hab hbc=>?_) (fun a b=>?_) l
  ·rw[Bool.not_eq_true']at hab hbc⊢
   cases hca:Op.bytesLess c.toList a.toList
   ·rfl
   ·by_cases e:a=b
    ·subst e;rw[hca]at hbc;cases hbc
    ·have:=C3m (a:=c) hca (C9d hab fun h=>e h.symm)
     rw[show B98 c b=false from hbc]at this;cases this
  ·cases hba:Op.bytesLess b.toList a.toList
   ·rfl
   ·have:=C8w (a:=b) (b:=a) hba
    simp only[B98]at this
    simp[this]
 have h2:(l.mergeSort fun a b=> !Op.bytesLess b.toList a.toList).Nodup:=(List.mergeSort_perm l _).nodup_iff.mpr h
 refine(h1.and h2).imp fun{a b} ⟨e1,e2⟩=>?_
 rw[Bool.not_eq_true']at e1
 exact C9d e1 fun h=>e2 h.symm
theorem C9i (l:B2o)(s:ByteArray):tAt l s<0∨∃k:Nat,tAt l s=(k:Int)∧k<l.length:=by
 obtain⟨b1,b2⟩:=C2r (fun t:B26=>decide (t.1=s)) l
 rw[show idx (fun t:B26=>decide (t.1=s)) l=tAt l s from rfl]at b1 b2
 by_cases c:0≤tAt l s
 ·obtain⟨k,e⟩:=Int.eq_ofNat_of_zero_le c
  exact .inr ⟨k,e,by omega⟩
 ·exact .inl (by omega)
theorem D3g:EV fun n=>∀a b:B4z,C1m 1048576 a→C1m 1048576 b→C6a n a.1 a.2 b.1 b.2=some (D0w a b):=(C6l.and (B9s.and (C9q.and (D52.and (EV.gt 100))))).up fun n ⟨h1,h2,h3,h4,hn⟩ a b ha hb=>by
 simp only[C6a,h1 a ha,h1 b hb,zC]
 by_cases oa:B4f a=true
 ·by_cases ob:B4f b=true
  ·have la:=(C1x oa).2
   have lb:=(C1x ob).2
   obtain⟨ca,da,_⟩:=B4l oa
   obtain⟨cb,db,_⟩:=B4l ob
   simp only[oa,ob,zT,zA]
   have hL2:∀acc:List ByteArray,acc.length≤6→B5d n n b.1 (b.1.length:Int) ((0:Nat):Int) a.1 a.2 acc=some ((acc++(b.1.filter fun t=>decide (tAt a.1 t.1<0)).map (·.1)).mergeSort fun a b=> !Op.bytesLess b.toList a.toList):=by
    intro acc hacc
    refine(C4p b.1 (fun _ t (s:List ByteArray)=>if(decide (tAt a.1 t.1<0))=true then s++[t.1]else s) (fun j k acc=>B5d n j b.1 (b.1.length:Int) (k:Int) a.1 a.2 acc) (fun s=>some (s.mergeSort fun a b=> !Op.bytesLess b.toList a.toList)) (fun k s=>s.length≤6+k) (fun k hk s h=>?_) (fun j s hs=>?_) (fun j k s hk hs=>?_) b.1 n 0 acc rfl (by omega) (by omega) (by omega)).trans ?_
    ·split
     ·rw[List.length_append];simp only[zW,zX];omega
     ·omega
    ·obtain⟨m,rfl⟩:∃m,n=m+1:=⟨n - 1,by omega⟩
     simp only[B5d,B27,zP,zH,zA,B75,B0g]
     rw[zD (show s.length<4611686018427387904 by omega)];rfl
    ·have e:=h2 a.1 b.1[k].1 ha.1.1
     rw[show idx (fun t:B26=>decide (t.1=b.1[k].1)) a.1=tAt a.1 b.1[k].1 from rfl]at e
     have r1:room (s.length+[b.1[k].1].length) 16=true:=by simp only[room,zG,zW,zX];omega
     simp only[B5d,B27,zD hk,B25 hk,zE,getD_at hk,zB,B28 hk (by omega),e,zC,r1]
     cases decide (tAt a.1 b.1[k].1<0)<;>rfl
    ·rw[C8y]
   have hL1:B5c n n a.1 (a.1.length:Int) ((0:Nat):Int) a.1 a.2 b.1 b.2 []=B5d n n b.1 (b.1.length:Int) ((0:Nat):Int) a.1 a.2 ((a.1.filter fun t=> !C3c a b t.1).map (·.1)):=by
    refine(C4p a.1 (fun _ t (s:List ByteArray)=>if(!C3c a b t.1)=true then s++[t.1]else s) (fun j k acc=>B5c n j a.1 (a.1.length:Int) (k:Int) a.1 a.2 b.1 b.2 acc) (fun s=>B5d n n b.1 (b.1.length:Int) ((0:Nat):Int) a.1 a.2 s) (fun k s=>s.length≤k) (fun k hk s h=>?_) (fun j s hs=>?_) (fun j k s hk hs=>?_) a.1 n 0 [] rfl (by omega) (by omega) (Nat.le_refl 0)).trans ?_
    ·split
     ·rw[List.length_append];simp only[zW,zX];omega
     ·omega
    ·simp only[B5c,B27,zP,zH,zA];rfl
    ·have e:=h2 b.1 a.1[k].1 hb.1.1
     rw[show idx (fun t:B26=>decide (t.1=a.1[k].1)) b.1=tAt b.1 a.1[k].1 from rfl]at e
     have r1:room (s.length+[a.1[k].1].length) 16=true:=by simp only[room,zG,zW,zX];omega
     have hk2:k<a.2.length:=by omega
     simp only[B5c,B27,zD hk,B25 hk,zE,getD_at hk,zB,B28 hk (by omega),e,zC,r1]
     rcases C9i b.1 a.1[k].1 with c|⟨i,ei,hi⟩
     ·have hs:C3c a b a.1[k].1=false:=by
       cases h:C3c a b a.1[k].1
       ·rfl
       ·have:=(D3o h).2;omega
      rw[zD c,hs];rfl
     ·have hi2:i<b.2.length:=by omega
      have e3:=h3 a.1[k] b.1[i] (ha.1.2 _ (zL hk))
      have e4:=h4 a.2[k] b.2[i] (ha.2.2 _ (zL hk2))
      have z:¬((i:Int)<0):=by omega
      have hs:C3c a b a.1[k].1=(decide (a.1[k]=b.1[i])&&decide (a.2[k]=b.2[i])):=by
       rw[←Bool.decide_and]
       unfold C3c
       rw[decide_eq_decide,D5h ca hk,ei]
       simp only[zE,getD_at hk,getD_at hi,getD_at hk2,getD_at hi2]
       constructor
       ·rintro⟨_,_,x,y⟩;exact⟨x,y⟩
       ·rintro⟨x,y⟩;exact⟨by omega,by omega,x,y⟩
      simp only[ei,zK z,zA,B25 hi,B25 hi2,B25 hk2,zB,zE,getD_at hi,getD_at hi2,getD_at hk2,e3,e4,zC,hs]
      cases decide (a.1[k]=b.1[i])<;>cases decide (a.2[k]=b.2[i])<;>rfl
    ·rw[C8y];rfl
   rw[show(0:Int)=((0:Nat):Int)from rfl,hL1,hL2 _ (by
    rw[List.length_map];exact Nat.le_trans (List.length_filter_le _ _) la)]
   congr 1
   obtain⟨f1,f2⟩:=C99 a b (a.1++b.1) 0 [] List.Pairwise.nil
   simp only[D0w,oa,ob,and_self,if_true]
   refine D1n _ _ (E5y ?_) f1 fun s=>?_
   ·refine List.nodup_append.mpr ⟨D63 ca _,D63 cb _,fun x hx y hy e=>?_⟩
    subst e
    obtain⟨t,ht,e1⟩:=List.mem_map.mp hx
    obtain⟨u,hu,e2⟩:=List.mem_map.mp hy
    have h1:=(List.mem_filter.mp ht).1
    have h2:=(List.mem_filter.mp hu).2
    rw[zG,e2]at h2
    have:=C39.mpr ⟨t,h1,e1⟩
    omega
   ·rw[List.mem_mergeSort,f2,zY]
    constructor
    ·rintro(h|h)
     ·obtain⟨t,ht,e1⟩:=List.mem_map.mp h
      obtain⟨h1,h2⟩:=List.mem_filter.mp ht
      exact .inr ⟨t,zZ _ h1,e1,by rw[←e1];simpa using h2⟩
     ·obtain⟨t,ht,e1⟩:=List.mem_map.mp h
      obtain⟨h1,h2⟩:=List.mem_filter.mp ht
      refine .inr ⟨t,zA1 _ h1,e1,?_⟩
      rw[zG,e1]at h2
      cases h:C3c a b s
      ·rfl
      ·have:=(D3o h).1;omega
    ·rintro(h|⟨t,ht,e1,e2⟩)
     ·cases h
     rcases zY.mp ht with h|h
     ·exact .inl (List.mem_map.mpr ⟨t,List.mem_filter.mpr ⟨h,by rw[e1,e2];rfl⟩,e1⟩)
     ·by_cases c:tAt a.1 s<0
      ·exact .inr (List.mem_map.mpr ⟨t,List.mem_filter.mpr ⟨h,by rw[e1];exact zD c⟩,e1⟩)
      ·obtain⟨u,hu,e3⟩:=C39.mp (show 0≤tAt a.1 s by omega)
       exact .inl (List.mem_map.mpr ⟨u,List.mem_filter.mpr ⟨hu,by rw[e3,e2];rfl⟩,e3⟩)
  ·simp[oa,ob,D0w]
 ·simp[oa,D0w]
theorem D3i {a b:B4z}(oa:B4f a=true)(ob:B4f b=true)(h:D0w a b=[]):∀s,(∃t∈a.1++b.1,t.1=s)→C3c a b s=true:=by
 intro s ⟨t,ht,e⟩
 obtain⟨_,f2⟩:=C99 a b (a.1++b.1) 0 [] List.Pairwise.nil
 simp only[D0w,oa,ob,and_self,if_true]at h
 cases hs:C3c a b s
 ·have:=(f2 s).mpr (.inr ⟨t,ht,e,hs⟩)
  rw[h]at this;cases this
 ·rfl
theorem E9b {a b:B4z}(oa:B4f a=true)(ob:B4f b=true)(h:D0w a b=[]):a.1.map (·.1)=b.1.map (·.1):=by
 have hn:=D3i oa ob h
 have hr:∀{l:B2o},B68 l=true→C3r (l.map (·.1)):=fun{l} hc=>
  List.pairwise_map.mpr (List.pairwise_iff_getElem.mpr fun i j hi hj hij=>C2n hc i j hij hj)
 refine D1n _ _ (hr (B4l oa).1) (hr (B4l ob).1) fun s=>⟨fun hs=>?_,fun hs=>?_⟩
 ·obtain⟨t,ht,e⟩:=List.mem_map.mp hs
  obtain⟨u,hu,e2⟩:=C39.mp (D3o (hn s ⟨t,zZ _ ht,e⟩)).2
  exact List.mem_map.mpr ⟨u,hu,e2⟩
 ·obtain⟨t,ht,e⟩:=List.mem_map.mp hs
  obtain⟨u,hu,e2⟩:=C39.mp (D3o (hn s ⟨t,zA1 _ ht,e⟩)).1
  exact List.mem_map.mpr ⟨u,hu,e2⟩
theorem E9c {a b:B4z}(oa:B4f a=true)(ob:B4f b=true):D0w a b=[]↔a=b:=by
 obtain⟨ca,da,_⟩:=B4l oa
 obtain⟨cb,db,_⟩:=B4l ob
 constructor
 ·intro h
  have hn:=D3i oa ob h
  have he:=E9b oa ob h
  have hl:a.1.length=b.1.length:=by have:=congrArg List.length he;simpa using this
  have hk:∀k (h1:k<a.1.length) (h2:k<b.1.length),a.1[k]=b.1[k]∧a.2[k]'(by omega)=b.2[k]'(by omega):=fun k h1 h2=>by
   have e1:a.1[k].1=b.1[k].1:=by
    have:=congrArg (fun l=>l[k]?) he
    simpa[h1,h2]using this
   have hs:=hn a.1[k].1 ⟨a.1[k],zZ _ (zL h1),rfl⟩
   simp only[C3c,zG]at hs
   obtain⟨_,_,x,y⟩:=hs
   rw[D5h ca h1,e1,D5h cb h2,zE]at x y
   rw[getD_at h1,getD_at h2]at x
   rw[getD_at (show k<a.2.length by omega),getD_at (show k<b.2.length by omega)]at y
   exact⟨x,y⟩
  refine Prod.ext (List.ext_getElem hl fun k h1 h2=>(hk k h1 h2).1) (List.ext_getElem (by omega) fun k h1 h2=>(hk k (by omega) (by omega)).2)
 ·rintro rfl
  obtain⟨_,f2⟩:=C99 a a (a.1++a.1) 0 [] List.Pairwise.nil
  simp only[D0w,oa,and_self,if_true]
  refine List.eq_nil_iff_forall_not_mem.mpr fun s hs=>?_
  rcases(f2 s).mp hs with h|⟨t,ht,e,h⟩
  ·cases h
  ·have hp:0≤tAt a.1 s:=C39.mpr ⟨t,(by rcases zY.mp ht with h|h<;>exact h),e⟩
   have:C3c a a s=true:=by simp[C3c,hp]
   rw[this]at h;cases h
def D7h (a b:B4z):Bool:=B4f a&&B4f b&&decide (a=b)
theorem D8r:EV fun n=>∀a b:B4z,C1m 1048576 a→C1m 1048576 b→C57 n a.1 a.2 b.1 b.2=some (D7h a b):=(C6l.and D3g).up fun n ⟨h1,h2⟩ a b ha hb=>by
 simp only[C57,h1 a ha,h1 b hb,h2 a b ha hb,zC,D7h]
 cases oa:B4f a
 ·rfl
 cases ob:B4f b
 ·rfl
 simp only[zB,zG1,B39,zO]
 rw[decide_eq_decide,←E9c oa ob]
 constructor
 ·intro h;exact List.eq_nil_of_length_eq_zero (by omega)
 ·intro h;rw[h];rfl
theorem C4z:EV fun n=>∀(l:List ByteArray) (s:ByteArray),l.length≤1048576→B2k n l s=some (idx (fun x=>decide (s=x)) l):=(EV.gt 1048577).up fun n hn l s hl=>by
 rw[B2k]
 refine B77 (fun x=>decide (s=x)) l (fun j k=>B2c n j l s (l.length:Int) (k:Int)) (fun j=>?_) (fun j k hk=>?_) l n 0 rfl (by omega) (by omega)
 ·simp only[B2c,B27,zP,zH,zA]
 ·simp only[B2c,B27,zD hk,B25 hk,zE,getD_at hk,zB,B28 hk (by omega),B3i]
  exact B76 _ _
theorem E8p (l:List ByteArray)(s:ByteArray):decide ((0:Int)≤idx (fun x=>decide (s=x)) l)=E5e l s:=by
 rw[idx,E3u]
 simp only[E5e]
 congr 1
 funext x
 rw[decide_eq_decide]
 exact⟨fun h=>h.symm,fun h=>h.symm⟩
theorem C7n:EV fun n=>∀(l:List ByteArray) (s:ByteArray),l.length≤1048576→A7d n l s=some (E5e l s):=C4z.up fun n h l s hl=>by
 simp only[A7d,h l s hl,zC,E8p]
def C3v (x:B26)(d:B3r):Int:=
 if d.1=3 then(if 0≤B2t x.2.1 (d.2.2.1.getD 0 CZ).1 then 5 else if x.2.1.length=8 then 6 else 0)else
 if d.1=4 then(if B2t x.2.1 d.2.2.2.2.1<0 then 7 else if E5e x.2.2 d.2.2.2.2.1=true then 8 else 0)else
 if d.1=5 then(if 0≤B2t x.2.1 d.2.2.2.2.2 then 5 else if B2t x.2.1 d.2.2.2.2.1<0 then 7 else 0)else 0
theorem D7g {p:Prop} [Decidable p]{α:Type}(x y:α):(bif decide p then x else y)=if p then x else y:=by by_cases h:p<;>simp[h]
def C3b (l:B2o)(d:B3r):Int:=
 if d.1=1 then(if 0≤tAt l d.2.1 then 2 else if l.length=6 then 3 else 0)else
 if tAt l d.2.1<0 then 4 else C3v (l.getD (tAt l d.2.1).toNat C27) d
theorem C7g:EV fun n=>∀(l:B2o) (d:B3r),C1n 1048576 l→B49 d=true→C26 n l d.1 d.2.1 d.2.2.1 d.2.2.2.1 d.2.2.2.2.1 d.2.2.2.2.2=some (C3b l d):=(B9s.and (B9a.and C7n)).up fun n ⟨h1,h2,h3⟩ l d hs hd=>by
 have e:=h1 l d.2.1 hs.1
 rw[show idx (fun t:B26=>decide (t.1=d.2.1)) l=tAt l d.2.1 from rfl]at e
 simp only[C26,e,zC,B39,C3b]
 by_cases k1:d.1=1
 ·simp only[k1,zI,zB,if_true,D7g]
  split
  ·rfl
  ·by_cases h8:l.length=6
   ·rw[if_pos (by omega),if_pos h8]
   ·rw[if_neg (by omega),if_neg h8]
 rcases C9i l d.2.1 with c|⟨i,ei,hi⟩
 ·simp only[k1,zH,zA,if_false,zD c,zB,if_pos c]
 have z:¬((i:Int)<0):=by omega
 simp only[ei,k1,zH,zA,if_false,zK z,if_neg z,B25 hi,zB,zE,getD_at hi]
 have hx:=hs.2 _ (zL hi)
 generalize l[i]=x at hx
 have hc:=hx.2.1.1
 have hk:=hx.2.2.1
 have h2':∀s,B2w n x.1 x.2.1 x.2.2 s=some (B2t x.2.1 s):=fun s=>h2 _ _ _ _ hc
 simp only[h2',h3 _ _ hk,zC,C3v]
 by_cases k3:d.1=3
 ·obtain⟨c,hcs,_⟩:=C6j hd k3
  simp only[k3,zI,zB,if_true,hcs,List.length_singleton,F05,Int.toNat_zero,List.getD_cons_zero,D7g,show¬(3:Int)=5 by decide,show¬(3:Int)=4 by decide,if_false]
  split
  ·rfl
  ·by_cases h8:x.2.1.length=8
   ·rw[if_pos (by omega),if_pos h8]
   ·rw[if_neg (by omega),if_neg h8]
 by_cases k4:d.1=4
 ·simp only[k4,show¬(4:Int)=3 by decide,show¬(4:Int)=5 by decide,zH,zI,zB,zA,if_true,if_false,D7g]
  split
  ·rfl
  ·cases E5e x.2.2 d.2.2.2.2.1<;>rfl
 by_cases k5:d.1=5
 ·simp only[k5,show¬(5:Int)=3 by decide,show¬(5:Int)=4 by decide,zH,zI,zB,zA,if_true,if_false,D7g]
  split
  ·rfl
  ·split<;>rfl
 ·simp only[k3,k4,k5,zH,zA,if_false]
theorem C7f:EV fun n=>∀l:B2o,C1n 1048576 l→C24 n l=some l:=(C25.and (EV.gt 1048577)).up fun n ⟨h,hn⟩ l hs=>by
 have hl:=hs.1
 simp only[C24]
 refine(C4v l id (fun j k acc=>B7c n j l (l.length:Int) (k:Int) [] acc) (fun j acc=>?_) (fun j k acc hk ha=>?_) l n 0 [] rfl (by omega) (by omega) rfl).trans (by simp)
 ·simp only[B7c,B27,zP,zH,zA]
 ·have e:=h l[k] (hs.2 _ (zL hk))
  have r3:∀x:B26,room (acc.length+[x].length) 64=true:=fun x=>by simp only[room,zG,zW,zX];omega
  simp only[B7c,B27,zD hk,B25 hk,zE,getD_at hk,zB,B28 hk (by omega),e,zC,r3,id]
def B9w (t:B26):B2o→B2o
 |[]=>[t]
 |x::l=>if B98 t.1 x.1=true then t::x::l else x::B9w t l
def C62 (d:B3r)(c:B4t):B4t:=if d.1=5∧c.1=d.2.2.2.2.1 then(d.2.2.2.2.2,c.2)else c
def C4m (d:B3r)(k:ByteArray):ByteArray:=if d.1=5∧k=d.2.2.2.2.1 then d.2.2.2.2.2 else k
def E53 (d:B3r)(c:B4t):Bool:=decide (d.1=4)&&decide (c.1=d.2.2.2.2.1)
def C11 (x:B26)(d:B3r):B26:=(x.1,((x.2.1.filter fun c=> !E53 d c).map (C62 d)++(if d.1=3 then [d.2.2.1.getD 0 CZ]else []),x.2.2.map (C4m d)))
def C1w (l:B2o)(d:B3r):B2o:=
 if d.1=1 then B9w (d.2.1,(d.2.2.1,d.2.2.2.1)) l else
 if d.1=2 then B4a l (tAt l d.2.1).toNat else l.set (tAt l d.2.1).toNat (C11 (l.getD (tAt l d.2.1).toNat C27) d)
def B4p (l:B2o)(d:B3r):B2o×(Int×Unit):=
 if B68 l=true∧B49 d=true then(if C3b l d=0 then(C1w l d,(0,()))else([],(C3b l d,())))else([],(1,()))
theorem E97 {α:Type}{eb:Nat}{l:List α}{i:Nat}{r:α}(h:i≤l.length)(hr:room (l.length+1) eb=true):B1k eb l (i:Int) [r]=some (l.take i++[r]++l.drop i):=by
 unfold B1k
 rw[zD ⟨rfl,by omega,by omega⟩,hr];rfl
theorem E7f {α:Type}{l:List α}{i:Nat}(hi:i<l.length)(f:α→α)(h2:∀j (hj:j<l.length),j≠i→f l[j]=l[j]):l.set i (f l[i])=l.map f:=by
 refine List.ext_getElem (by simp) fun j h1 h3=>?_
 rw[List.getElem_set,List.getElem_map]
 split
 ·rename_i e;subst e;rfl
 ·rename_i e;exact(h2 j (by simpa using h1) (fun h=>e h.symm)).symm
theorem E6j {x:B26}(h:B2g x=true):∀i j (hi:i<x.2.1.length) (hj:j<x.2.1.length),x.2.1[i].1=x.2.1[j].1→i=j:=by
 intro i j hi hj e
 simp only[B2g,zJ]at h
 have a1:=C1h h.1.2 hi
 have a2:=C1h h.1.2 hj
 simp only[zJ,zG]at a1 a2
 have:=a1.2
 rw[e,a2.2]at this
 omega
theorem D96 {cs:B2x}:∀{ks:B3l} {last:Int},(runs (B5u cs) ks last).isSome=true→∀k∈ks,last<B2t cs k
 |[],_,_,k,hk=>by cases hk
 |y::ks,last,h,k,hk=>by
  simp only[runs]at h
  unfold B5u at h
  split at h
  ·rename_i c
   rcases List.mem_cons.mp hk with e|e
   ·rw[e];exact c.1
   ·have:=D96 (last:=B2t cs y) h k e
    exact Int.lt_trans c.1 this
  ·cases h
theorem D99 {cs:B2x}:∀{ks:B3l} {last:Int},(runs (B5u cs) ks last).isSome=true→ks.Nodup
 |[],_,_=>List.Pairwise.nil
 |y::ks,last,h=>by
  simp only[runs]at h
  unfold B5u at h
  split at h
  ·rename_i c
   refine List.pairwise_cons.mpr ⟨fun k hk e=>?_,D99 (last:=B2t cs y) h⟩
   have:=D96 (last:=B2t cs y) h k hk
   rw[e]at this;exact Int.lt_irrefl _ this
  ·cases h
theorem E6v {x:B26}(h:B2g x=true):x.2.2.Nodup:=by
 simp only[B2g,zJ]at h
 exact D99 h.2
theorem C8o (cs:B2x)(s:ByteArray):B2t cs s<0∨∃k:Nat,B2t cs s=(k:Int)∧∃hk:k<cs.length,cs[k].1=s:=by
 by_cases c:0≤B2t cs s
 ·obtain⟨k,e⟩:=Int.eq_ofNat_of_zero_le c
  obtain⟨hk,e2⟩:=C8p (fun c:B4t=>decide (c.1=s)) cs 0 k (by rw[zS];exact e)
  exact .inr ⟨k,e,hk,by simpa using e2⟩
 ·exact .inl (by omega)
theorem E2s:EV fun n=>∀(c:B4t) (d:B3r),B95 n c.1 c.2.1 c.2.2.1 c.2.2.2.1 c.2.2.2.2.1 c.2.2.2.2.2.1 c.2.2.2.2.2.2 d=some (decide (c.1=d.2.2.2.2.1)):=EV.true.up fun n _ c d=>by
 simp only[B95,B3i]
theorem E7o:EV fun n=>∀(l:B2x) (d:B3r),l.length≤1048576→B34 n l d=some (B2t l d.2.2.2.2.1):=(E2s.and (EV.gt 1048577)).up fun n ⟨h1,hn⟩ l d hl=>by
 rw[B34]
 refine B77 (fun c:B4t=>decide (c.1=d.2.2.2.2.1)) l (fun j k=>B2j n j l d (l.length:Int) (k:Int)) (fun j=>?_) (fun j k hk=>?_) l n 0 rfl (by omega) (by omega)
 ·simp only[B2j,B27,zP,zH,zA]
 ·simp only[B2j,B27,zD hk,B25 hk,zE,getD_at hk,zB,B28 hk (by omega),h1,zC]
  exact B76 _ _
def C0a (l:B2x)(s:ByteArray):B2x:=l.filter fun c=> !decide (c.1=s)
theorem D5z (s:ByteArray):∀(l:B2x) (k:Nat),(idxFrom (fun c:B4t=>decide (c.1=s)) l k= -1∧C0a l s=l)∨∃m:Nat,m<l.length∧idxFrom (fun c:B4t=>decide (c.1=s)) l k=((k+m:Nat):Int)∧C0a l s=l.take m++C0a (l.drop (m+1)) s
 |[],k=> .inl ⟨rfl,rfl⟩
 |c::l,k=>by
  by_cases e:c.1=s
  ·refine .inr ⟨0,by simp,by simp[idxFrom,e],by simp[C0a,e]⟩
  ·rcases D5z s l (k+1)with⟨h1,h2⟩|⟨m,h1,h2,h3⟩
   ·refine .inl ⟨by simp[idxFrom,e,h1],?_⟩
    simp only[C0a,List.filter_cons,e,zH,zU,if_true]at h2⊢
    rw[h2]
   ·refine .inr ⟨m+1,by simp;omega,?_,?_⟩
    ·simp only[idxFrom,e,zH,zA]at h2⊢
     first
      |(rw[if_neg (by simp),h2];congr 1;omega)
      |(rw[h2];congr 1;omega)
    ·simp only[C0a,List.filter_cons,e,zH,zU,if_true,List.take_succ_cons,List.drop_succ_cons,List.cons_append]at h3⊢
     rw[h3]
theorem E7n:EV fun n=>∀(l:B2x) (d:B3r),l.length≤1048576→B30 n l d=some (C0a l d.2.2.2.2.1):=(E2s.and (E7o.and (EV.gt 1048578))).up fun n ⟨h1,h2,hn⟩ l d hl=>by
 have loop:∀(t:B2x) (j k i:Nat) (cur:B2x),cur.drop k=t→k≤cur.length→i≤k→t.length<j→cur.length≤1048576→
   B2a n j d (i:Int) (k:Int) cur=some (cur.take i++C0a t d.2.2.2.2.1):=by
  intro t
  induction t with
  |nil=>
   intro j k i cur hd hk hi hj hc
   obtain⟨j,rfl⟩:∃j',j=j'+1:=⟨j - 1,by omega⟩
   have:k=cur.length:=by have:=congrArg List.length hd;simp at this;omega
   subst this
   have q1:decide (0≤(i:Int)∧(i:Int)≤((cur.length:Nat):Int)∧((cur.length:Nat):Int)≤(cur.length:Int))=true:=zD ⟨by omega,by omega,by omega⟩
   have q2:∀z:B4t,decide (0≤((0:Nat):Int)∧((0:Nat):Int)≤(i:Int)∧(i:Int)≤((cur.take i++List.replicate (cur.length - i) z++cur.drop (i+(cur.length - i))).length:Int))=true:=fun z=>zD ⟨by omega,by omega,by simp;omega⟩
   simp only[B2a,B27,zP,zH,zA,q1,zB,zE,q2]
   have:(cur.take i).length=i:=by simp;omega
   simp only[C0a,List.filter_nil,zH1,Nat.sub_zero]
   rw[List.append_assoc,List.take_append_of_le_length (by omega),List.take_of_length_le (by omega)]
  |cons y t ih=>
   intro j k i cur hd hk hi hj hc
   obtain⟨j,rfl⟩:∃j',j=j'+1:=⟨j - 1,by omega⟩
   obtain⟨g2,g3,g4⟩:=B36 hd y
   have hx:cur[k]=y:=by simpa[List.getD,g2]using g3
   have hik:i<cur.length:=by omega
   simp only[B2a,B27,zD g2,B25 g2,B25 hik,zE,getD_at g2,hx,zB,B28 g2 (by omega),B28 hik (by omega),h1,zC]
   by_cases h:y.1=d.2.2.2.2.1
   ·simp only[h,zI,zT,zA]
    rw[ih j (k+1) i cur g4 (by omega) (by omega) (by simp at hj;omega) hc]
    simp[C0a,h]
   ·simp only[h,zH,zU,zB]
    rw[show(y.1,(y.2.1,(y.2.2.1,(y.2.2.2.1,(y.2.2.2.2.1,(y.2.2.2.2.2.1,y.2.2.2.2.2.2))))))=y from rfl]
    rw[ih j (k+1) (i+1) (cur.set i y) (by rw[List.drop_set_of_lt (by omega)];exact g4) (by simp;omega) (by omega) (by simp at hj;omega) (by simpa using hc)]
    have e:(cur.set i y).take (i+1)=cur.take i++[y]:=by
     rw[List.take_add_one,List.take_set_of_le (by omega),List.getElem?_set_self hik];rfl
    rw[e]
    simp[C0a,h]
 rw[B30,h2 l d hl]
 simp only[zC]
 rcases D5z d.2.2.2.2.1 l 0 with⟨g1,g2⟩|⟨m,g1,g2,g3⟩
 ·have:B2t l d.2.2.2.2.1= -1:=g1
  rw[this,g2];rfl
 ·have e:B2t l d.2.2.2.2.1=(m:Int):=by have:=g2;rw[zS]at this;exact this
  have ne:(((m:Nat):Int)==(-1:Int))=false:=by simp
  rw[e,ne,zA,B28 g1 (by omega),loop (l.drop (m+1)) n (m+1) m l rfl (by omega) (by omega) (by simp;omega) hl,g3]
theorem E7t {l:List ByteArray}(h:l.Nodup){i j:Nat}(hi:i<l.length)(hj:j<l.length)(e:l[i]=l[j]):i=j:=by
 have h':=List.pairwise_iff_getElem.mp h
 rcases zE1 i j with c|c
 ·exact absurd e (h' i j hi hj c)
 ·rcases zE1 j i with c2|c2
  ·exact absurd e.symm (h' j i hj hi c2)
  ·omega
theorem D1a {l:B2o}{d:B3r}(h:C3b l d=0)(k1:¬d.1=1):∃i:Nat,tAt l d.2.1=(i:Int)∧∃hi:i<l.length,C3v l[i] d=0:=by
 simp only[C3b,k1,if_false]at h
 rcases C9i l d.2.1 with c|⟨i,ei,hi⟩
 ·rw[if_pos c]at h;cases h
 ·have z:¬((i:Int)<0):=by omega
  rw[ei,if_neg z,zE,getD_at hi]at h
  exact⟨i,ei,hi,h⟩
theorem E6h {x:B26}{d:B3r}(k4:d.1=4):C11 x d=(x.1,(C0a x.2.1 d.2.2.2.2.1,x.2.2)):=by
 simp only[C11,k4,show¬(4:Int)=3 by decide,if_false,zH1,C0a]
 have e1:x.2.2.map (C4m d)=x.2.2:=by
  rw[show C4m d=id from funext fun k=>by simp[C4m,k4]];simp
 have e2:∀l:B2x,l.map (C62 d)=l:=fun l=>by
  rw[show C62 d=id from funext fun k=>by simp[C62,k4]];simp
 rw[e1,e2]
 congr 2
 refine List.filter_congr fun c _=>?_
 simp[E53,k4]
theorem E6g {x:B26}{d:B3r}(k3:d.1=3):C11 x d=(x.1,(x.2.1++[d.2.2.1.getD 0 CZ],x.2.2)):=by
 simp only[C11,k3,if_true]
 have e1:x.2.2.map (C4m d)=x.2.2:=by
  rw[show C4m d=id from funext fun k=>by simp[C4m,k3]];simp
 have e2:∀l:B2x,l.map (C62 d)=l:=fun l=>by
  rw[show C62 d=id from funext fun k=>by simp[C62,k3]];simp
 rw[e1,e2]
 congr 3
 exact List.filter_eq_self.mpr fun c _=>by simp[E53,k3]
theorem D5t {x:B26}{d:B3r}(k5:d.1=5):C11 x d=(x.1,(x.2.1.map (C62 d),x.2.2.map (C4m d))):=by
 simp only[C11,k5,show¬(5:Int)=3 by decide,if_false,zH1]
 congr 3
 exact List.filter_eq_self.mpr fun c _=>by simp[E53,k5]
theorem D51:EV fun n=>∀(l:B2o) (d:B3r),C1n 1048576 l→B9y 1048576 d→C31 n l d.1 d.2.1 d.2.2.1 d.2.2.2.1 d.2.2.2.2.1 d.2.2.2.2.2=some (B4p l d):=(D0x.and (C32.and (C7g.and (C7f.and (B9s.and (C69.and (B9a.and (E7n.and (C4z.and (EV.gt 100)))))))))).up fun n ⟨h1,h2,h3,h4,h5,h6,h7,h8,h9,hn⟩ l d hl hd=>by
 obtain⟨m,rfl⟩:∃m,n=m+1:=⟨n - 1,by omega⟩
 have e5:=h5 l d.2.1 hl.1
 rw[show idx (fun t:B26=>decide (t.1=d.2.1)) l=tAt l d.2.1 from rfl]at e5
 simp only[C31,h1 l hl,h2 d hd,zC,B4p,B39,B6z]
 cases hc:B68 l
 ·simp
 cases hk:B49 d
 ·simp
 have hlen:=(B99 hc).1
 simp only[zT,zA,and_self,if_true,h3 l d hl hk,zC]
 by_cases hz:C3b l d=0
 rotate_left
 ·simp only[hz,zH,zU,zB,if_false]
 simp only[hz,zI,zT,zA,if_true,h4 l hl,e5,zC]
 by_cases k1:d.1=1
 ·simp only[k1,zI,zB,C1w,if_true]
  have hno:∀t∈l,t.1≠d.2.1:=fun t ht e=>by
   have:=C39.mpr ⟨t,ht,e⟩
   simp only[C3b,k1,if_true,if_pos this]at hz
   cases hz
  have h6':=h6 d hd
  rw[k1]at h6'
  have hins:∀k,k≤l.length→B1k 64 l (k:Int) [((d.2.1,(d.2.2.1,d.2.2.2.1)):B26)]=some (l.take k++[(d.2.1,(d.2.2.1,d.2.2.2.1))]++l.drop k):=fun k hk=>E97 hk (by simp only[room,zG];omega)
  have loop:∀(t:B2o) (j k:Nat),l.drop k=t→k≤l.length→t.length<j→B6l (m+1) j (k:Int) 1 d.2.1 d.2.2.1 d.2.2.2.1 d.2.2.2.2.1 d.2.2.2.2.2 [] l=some (l.take k++B9w (d.2.1,(d.2.2.1,d.2.2.2.1)) t,(0,())):=by
   intro t
   induction t with
   |nil=>
    intro j k hdr hkl hj
    obtain⟨j,rfl⟩:∃i,j=i+1:=⟨j - 1,by simp at hj;omega⟩
    have:k=l.length:=by
     rcases zE1 k l.length with h'|h'
     ·rw[zC1 h']at hdr;cases hdr
     ·omega
    subst this
    simp only[B6l,B27,zP,zH,zA,h6',zC,B3k,hins _ (Nat.le_refl _)]
    simp[B9w]
   |cons y t ih=>
    intro j k hdr hkl hj
    obtain⟨j,rfl⟩:∃i,j=i+1:=⟨j - 1,by simp at hj;omega⟩
    obtain⟨g2,g3,g4⟩:=B36 hdr C27
    rw[getD_at g2]at g3
    have hy:y∈l:=by rw[←g3];exact zL g2
    have htk:l.take (k+1)=l.take k++[y]:=by rw[List.take_add_one,List.getElem?_eq_getElem g2,g3];rfl
    simp only[B6l,B27,zD g2,B25 g2,zE,getD_at g2,g3,zB,B28 g2 (by omega),h6',zC,B3k,hins k hkl]
    cases c:Op.bytesLess y.1.toList d.2.1.toList
    ·have hl:B98 d.2.1 y.1=true:=C9d (a:=y.1) c (hno y hy)
     rw[zA,hdr]
     simp only[B9w]
     rw[if_pos hl]
     simp
    ·have hl:B98 d.2.1 y.1=false:=C8w (a:=y.1) c
     rw[zB,ih j (k+1) g4 (by omega) (by simp at hj;omega),htk]
     simp only[B9w]
     rw[if_neg (by rw[hl];simp)]
     simp
  have:=loop l (m+1) 0 rfl (by omega) (by omega)
  rw[List.take_zero,List.nil_append]at this
  exact this
 obtain⟨i,ei,hi,hf⟩:=D1a hz k1
 have hx:=hl.2 _ (zL hi)
 have hcl:=hx.2.1.1
 have hkl:=hx.2.2.1
 have htab:=(B99 hc).2 _ (zL hi)
 simp only[k1,zH,zA,C1w,if_false,ei,zE,getD_at hi]
 by_cases k2:d.1=2
 ·simp only[k2,zI,zB,if_true,B4r,B28 hi (by omega),E8g hi,zC]
 simp only[k2,zH,zA,if_false,B25 hi,zB]
 by_cases k3:d.1=3
 ·obtain⟨c,hcs,_⟩:=C6j hk k3
  have r1:room (l[i].2.1.length+1) 64=true:=by simp only[room,zG];omega
  simp only[k3,zI,zB,hcs,List.length_singleton,F05,Int.toNat_zero,List.getD_cons_zero,r1,Nat.beq_refl,E6g k3]
 by_cases k4:d.1=4
 ·have e8:=h8 l[i].2.1 d hcl
  rw[show((d.1,(d.2.1,(d.2.2.1,(d.2.2.2.1,(d.2.2.2.2.1,d.2.2.2.2.2))))):B3r)=d from rfl]
  simp only[k3,k4,show¬(4:Int)=3 by decide,zH,zA,zI,zB,e8,zC,Nat.beq_refl,E6h k4]
 have k5:d.1=5:=by rcases D1e hk with h|h|h|h|h<;>first|exact h|exact absurd h (by assumption)
 simp only[k5,show¬(5:Int)=3 by decide,show¬(5:Int)=4 by decide,zH,zA,zI,zB]
 have h7':∀a ks s,B2w (m+1) a l[i].2.1 ks s=some (B2t l[i].2.1 s):=fun a ks s=>h7 _ _ _ _ hcl
 simp only[h7',zC]
 have hcol:¬B2t l[i].2.1 d.2.2.2.2.1<0:=fun h=>by
  simp only[C3v,k5,show¬(5:Int)=3 by decide,show¬(5:Int)=4 by decide,if_false,if_true]at hf
  split at hf
  ·cases hf
  ·first
    |(cases hf;done)
    |(rw[if_pos h]at hf;cases hf)
 rcases C8o l[i].2.1 d.2.2.2.2.1 with c|⟨q,eq,hq,hqn⟩
 ·exact absurd c hcol
 simp only[eq,B25 hq,zB,zE,getD_at hq]
 have hset:l[i].2.1.set q (d.2.2.2.2.2,l[i].2.1[q].2)=l[i].2.1.map (C62 d):=by
  have:=E7f hq (C62 d) fun j hj hne=>by
   simp only[C62]
   rw[if_neg]
   rintro⟨_,e⟩
   exact hne (E6j htab j q hj hq (e.trans hqn.symm))
  rw[←this]
  congr 1
  simp only[C62]
  rw[if_pos ⟨k5,hqn⟩]
 have hgs:∀x:B26,(l.set i x).getD i C27=x:=fun x=>by
  rw[getD_at (show i<(l.set i x).length by simpa using hi),List.getElem_set_self]
 rw[hset]
 have hgs':∀x:B26,(l.set i x).getD i (E0,([],[]))=x:=hgs
 simp only[hgs',h9 _ _ hkl,zC]
 by_cases ck:0≤idx (fun x=>decide (d.2.2.2.2.1=x)) l[i].2.2
 ·obtain⟨p,ep⟩:=Int.eq_ofNat_of_zero_le ck
  obtain⟨hp,ep2⟩:=C8p (fun x=>decide (d.2.2.2.2.1=x)) l[i].2.2 0 p (by rw[zS];exact ep)
  rw[zG]at ep2
  have hks:l[i].2.2.set p d.2.2.2.2.2=l[i].2.2.map (C4m d):=by
   have hnd:=E6v htab
   have:=E7f hp (C4m d) fun j hj hne=>by
    simp only[C4m]
    rw[if_neg]
    rintro⟨_,e⟩
    exact hne (E7t hnd hj hp (e.trans ep2))
   rw[←this]
   congr 1
   simp only[C4m]
   rw[if_pos ⟨k5,ep2.symm⟩]
  have z:(0:Int)≤(p:Int):=by omega
  simp only[ep,zD z,zB,B25 hp,zE,hks,List.set_set,D5t k5]
 ·have hno:∀y∈l[i].2.2,y≠d.2.2.2.2.1:=fun y hy e=>by
   have:=(C9b (fun x=>decide (d.2.2.2.2.1=x)) l[i].2.2).mp ck y hy
   simp[e]at this
  have hks:l[i].2.2.map (C4m d)=l[i].2.2:=by
   rw[List.map_congr_left (g:=id) fun y hy=>by simp[C4m,hno y hy]];simp
  simp only[zK ck,zA,D5t k5,hks]
theorem E33 (t y:B26):∀l:B2o,y∈B9w t l→y=t∨y∈l
 |[],h=>by simpa[B9w]using h
 |x::l,h=>by
  simp only[B9w]at h
  split at h
  ·rcases List.mem_cons.mp h with e|e
   ·exact .inl e
   ·exact .inr e
  ·rcases List.mem_cons.mp h with e|e
   ·exact .inr (by rw[e];exact zM ..)
   ·exact(E33 t y l e).imp id (zF _)
theorem E32 (t:B26):∀l:B2o,(B9w t l).length=l.length+1
 |[]=>rfl
 |x::l=>by
  simp only[B9w]
  split
  ·rfl
  ·simp[E32 t l]
theorem E7j {x:B26}{d:B3r}(hx:B3f 1048576 x)(ht:B2g x=true)(hd:B9y 1048576 d)(hk:B49 d=true):B3f 1048576 (C11 x d):=by
 obtain⟨l1,l2⟩:=E9a ht
 refine⟨hx.1,⟨?_,fun c hc=>?_⟩,⟨by simp only[C11,List.length_map];omega,fun k hk'=>?_⟩⟩
 ·have h1:=List.length_filter_le (fun c=> !E53 d c) x.2.1
  simp only[C11,List.length_append,List.length_map]
  split<;>simp<;>omega
 ·simp only[C11]at hc
  rcases zY.mp hc with hc|hc
  ·obtain⟨c0,hc0,rfl⟩:=List.mem_map.mp hc
   have hs:=hx.2.1.2 c0 (List.mem_filter.mp hc0).1
   unfold C62
   split
   ·exact⟨hd.2.2.2.2,hs.2⟩
   ·exact hs
  ·split at hc
   ·rename_i k3
    obtain⟨c1,hcs,_⟩:=C6j hk k3
    have:=hd.2.1.2
    rw[hcs]at hc this
    simp only[List.getD_cons_zero,zF1]at hc
    rw[hc];exact this c1 (by simp)
   ·cases hc
 ·obtain⟨k0,hk0,rfl⟩:=List.mem_map.mp hk'
  have hs:=hx.2.2.2 k0 hk0
  unfold C4m
  split
  ·exact hd.2.2.2.2
  ·exact hs
theorem E7g {l:B2o}{d:B3r}(hl:C1n 1048576 l)(hd:B9y 1048576 d):C1n 1048576 (B4p l d).1:=by
 unfold B4p
 split
 ·rename_i h
  obtain⟨hc,hk⟩:=h
  have h6:=(B99 hc).1
  split
  ·rename_i hz
   simp only[C1w]
   split
   ·refine⟨by rw[E32];omega,fun t ht=>?_⟩
    rcases E33 _ _ _ ht with e|e
    ·rw[e];exact⟨hd.1,hd.2.1,hd.2.2.1⟩
    ·exact hl.2 t e
   ·rename_i k1
    obtain⟨i,ei,hi,_⟩:=D1a hz k1
    split
    ·exact⟨Nat.le_trans (C95 _ _) hl.1,fun t ht=>hl.2 t (C5q ht)⟩
    ·rw[ei,zE,getD_at hi]
     refine⟨by rw[List.length_set];exact hl.1,fun t ht=>?_⟩
     rcases List.mem_or_eq_of_mem_set ht with e|e
     ·exact hl.2 t e
     ·rw[e];exact E7j (hl.2 _ (zL hi)) ((B99 hc).2 _ (zL hi)) hd hk
  ·exact⟨Nat.zero_le _,fun t ht=>by cases ht⟩
 ·exact⟨Nat.zero_le _,fun t ht=>by cases ht⟩
def D95 (x:B26)(d:B3r)(r:B7k):B7k:=
 if d.1=4 then B4a r (B2t x.2.1 d.2.2.2.2.1).toNat else if d.1=3 then r++[(d.2.2.1.getD 0 CZ).2.2.2.2]else r
def C4l (x:B26)(l:B2s)(d:B3r):B2s×(Int×Unit):=
 if B3t x l=true∧B49 d=true∧d.2.1=x.1∧d.1≠1 then
  (if C3v x d=0 then(if d.1=2 then []else l.map (D95 x d),(0,()))else([],(C3v x d,())))else([],(1,()))
theorem F0g {x:B26}{s:ByteArray}(h:s=x.1):tAt [x] s=0:=by
 subst h
 simp[tAt,idx,idxFrom]
theorem E7h {x:B26}{d:B3r}(h:d.2.1=x.1)(k1:¬d.1=1):C3b [x] d=C3v x d:=by
 simp only[C3b,k1,if_false,F0g h]
 rfl
theorem F0b {x:B26}{d:B3r}(k4:d.1=4)(hf:C3v x d=0):∃p:Nat,B2t x.2.1 d.2.2.2.2.1=(p:Int)∧p<x.2.1.length:=by
 rcases C8o x.2.1 d.2.2.2.2.1 with c|⟨p,ep,hp,_⟩
 ·simp only[C3v,k4,show¬(4:Int)=3 by decide,if_false,if_true,if_pos c]at hf
  cases hf
 ·exact⟨p,ep,hp⟩
theorem E2t {α:Type}:∀(t:List α) (k:Nat) (acc:List α),C0q (fun _ x (s:List α)=>s++[x]) k t acc=acc++t
 |[],k,acc=>by simp[C0q]
 |x::t,k,acc=>by
  simp only[C0q]
  rw[E2t t];simp
theorem D6o:EV fun n=>∀(x:B26) (l:B2s) (d:B3r),B3f 1048576 x→B52 1048576 l→B9y 1048576 d→C43 n x.1 x.2.1 x.2.2 l d.1 d.2.1 d.2.2.1 d.2.2.2.1 d.2.2.2.2.1 d.2.2.2.2.2=some (C4l x l d):=(B9t.and (C32.and (C7g.and (B9a.and (B8d.and (EV.gt 1048577)))))).up fun n ⟨h1,h2,h3,h4,h5,hn⟩ x l d hx hl hd=>by
 obtain⟨m,rfl⟩:∃m,n=m+1:=⟨n - 1,by omega⟩
 have h4':∀s,B2w (m+1) x.1 x.2.1 x.2.2 s=some (B2t x.2.1 s):=fun s=>h4 _ _ _ _ hx.2.1.1
 simp only[C43,h1 x l hx hl.1,h2 d hd,h4',zC,B3i,B39,B6z,C4l]
 cases hr:B3t x l
 ·simp
 cases hk:B49 d
 ·simp
 have e3:=h3 [x] d ⟨by simp,fun t ht=>by rw[zF1.mp ht];exact hx⟩ hk
 rw[show [(x.1,(x.2.1,x.2.2))]=[x]from rfl,e3]
 simp only[zT,zA]
 by_cases hn1:d.2.1=x.1
 rotate_left
 ·simp[hn1]
 by_cases k1:d.1=1
 ·simp[hn1,k1]
 have hlen:=(B70 hr).2.1
 simp only[hn1,k1,zI,zH,zT,zA,zC,ne_eq,not_false_eq_true,and_self,if_true,E7h hn1 k1]
 by_cases hf:C3v x d=0
 rotate_left
 ·simp only[hf,zH,zU,zB,if_false]
 simp only[hf,zI,zT,zA,if_true,h5 l hl,zC]
 by_cases k2:d.1=2
 ·simp only[k2,zI,zB,if_true]
 simp only[k2,zH,zA,if_false]
 by_cases k3:d.1=3
 ·obtain⟨c,hcs,_⟩:=C6j hk k3
  simp only[k3,zI,zB]
  have loop:∀(t:B2s) (j k:Nat) (s:B2s),s.drop k=t→k≤s.length→t.length<j→s.length=l.length→(∀r∈t,r.length≤1048576)→
    B79 (m+1) j (l.length:Int) (k:Int) 3 x.1 d.2.2.1 d.2.2.2.1 d.2.2.2.2.1 d.2.2.2.2.2 s=some (s.take k++t.map (D95 x d),(0,())):=by
   intro t
   induction t with
   |nil=>
    intro j k s hdr hkl hj hsl _
    obtain⟨j,rfl⟩:∃i,j=i+1:=⟨j - 1,by simp at hj;omega⟩
    have:k=s.length:=by
     rcases zE1 k s.length with h'|h'
     ·rw[zC1 h']at hdr;cases hdr
     ·omega
    subst this
    simp only[B79,hsl,B27,zP,zH,zA]
    rw[←hsl,List.take_length];simp
   |cons r t ih=>
    intro j k s hdr hkl hj hsl hrl
    obtain⟨j,rfl⟩:∃i,j=i+1:=⟨j - 1,by simp at hj;omega⟩
    obtain⟨g2,g3,g4⟩:=B36 hdr []
    have hk2:k<l.length:=by omega
    have hrr:=hrl r (zM ..)
    have r1:room (r.length+1) 32=true:=by simp only[room,zG];omega
    simp only[B79,B27,zD hk2,B25 g2,zE,g3,zB,hcs,List.length_singleton,F05,Int.toNat_zero,List.getD_cons_zero,r1,Nat.beq_refl,B28 hk2 (by omega)]
    have:=ih j (k+1) (s.set k (r++[c.2.2.2.2])) (by rw[List.drop_set_of_lt (by omega)];exact g4) (by simp;omega) (by simp at hj;omega) (by simpa using hsl) (fun r' hr'=>hrl r' (zF _ hr'))
    rw[hcs]at this
    rw[this]
    have hset:(s.set k (r++[c.2.2.2.2])).take (k+1)=s.take k++[r++[c.2.2.2.2]]:=by
     rw[List.take_add_one,List.take_set_of_le (by omega),List.getElem?_set_self g2];rfl
    rw[hset]
    simp[D95,k3,hcs]
  have:=loop l (m+1) 0 l rfl (by omega) (by omega) rfl fun r hr'=>by
   have:=C0g hr r hr'
   have:=hx.2.1.1
   omega
  rw[List.take_zero,List.nil_append]at this
  exact this
 by_cases k4:d.1=4
 ·obtain⟨p,ep,hp⟩:=F0b k4 hf
  simp only[k4,show¬(4:Int)=3 by decide,zH,zA,zI,zB,ep]
  have hcl:=hx.2.1.1
  have loop:∀(t:B2s) (j k:Nat) (s:B2s),s.drop k=t→k≤s.length→t.length<j→s.length=l.length→(∀r∈t,p<r.length)→
    B7a (m+1) j (p:Int) (l.length:Int) (k:Int) s=some (s.take k++t.map (D95 x d),(0,())):=by
   intro t
   induction t with
   |nil=>
    intro j k s hdr hkl hj hsl _
    obtain⟨j,rfl⟩:∃i,j=i+1:=⟨j - 1,by simp at hj;omega⟩
    have:k=s.length:=by
     rcases zE1 k s.length with h'|h'
     ·rw[zC1 h']at hdr;cases hdr
     ·omega
    subst this
    simp only[B7a,hsl,B27,zP,zH,zA]
    rw[←hsl,List.take_length];simp
   |cons r t ih=>
    intro j k s hdr hkl hj hsl hrl
    obtain⟨j,rfl⟩:∃i,j=i+1:=⟨j - 1,by simp at hj;omega⟩
    obtain⟨g2,g3,g4⟩:=B36 hdr []
    have hk2:k<l.length:=by omega
    have hrr:=hrl r (zM ..)
    have wp:IntKind.wrap .i64 ((p:Int)+1)=((p+1:Nat):Int):=by rw[wrap64]<;>omega
    simp only[B7a,B27,zD hk2,B25 g2,zE,g3,zB,B58,wp,E8g hrr,zC,Nat.beq_refl,B28 hk2 (by omega)]
    rw[ih j (k+1) (s.set k (B4a r p)) (by rw[List.drop_set_of_lt (by omega)];exact g4) (by simp;omega) (by simp at hj;omega) (by simpa using hsl) (fun r' hr'=>hrl r' (zF _ hr'))]
    have hset:(s.set k (B4a r p)).take (k+1)=s.take k++[B4a r p]:=by
     rw[List.take_add_one,List.take_set_of_le (by omega),List.getElem?_set_self g2];rfl
    rw[hset]
    simp[D95,k4,ep]
  have:=loop l (m+1) 0 l rfl (by omega) (by omega) rfl fun r hr'=>by
   rw[C0g hr r hr'];exact hp
  rw[List.take_zero,List.nil_append]at this
  exact this
 ·simp only[k3,k4,zH,zA]
  rw[show D95 x d=id from funext fun r=>by simp[D95,k3,k4],List.map_id]
def D3h:B4z:=([],[])
def C4k (x:B26)(l:B2s)(s:B4e):B2s×(Int×Unit):=
 if s.1=1 then C09 x l s.2.2.2.1 else if s.1=2 then C98 x l s.2.2.1 s.2.2.2.1 else if s.1=3 then C97 x l s.2.2.1 else if s.1=5 then C4l x l s.2.2.2.2 else([],(0,()))
def C0f (d:B4z)(s:B4e)(t:B26):B2s:=
 if 0≤tAt d.1 t.1 then(if t.1=s.2.1 then(C4l (d.1.getD (tAt d.1 t.1).toNat C27) (d.2.getD (tAt d.1 t.1).toNat []) s.2.2.2.2).1 else d.2.getD (tAt d.1 t.1).toNat [])else []
def C3a (d:B4z)(s:B4e):B4z×(Int×Unit):=
 if(B4p d.1 s.2.2.2.2).2.1=0 then(((B4p d.1 s.2.2.2.2).1,(B4p d.1 s.2.2.2.2).1.map (C0f d s)),(0,()))else(D3h,(10+(B4p d.1 s.2.2.2.2).2.1,()))
def D1b (d:B4z)(s:B4e):B4z×(Int×Unit):=
 if tAt d.1 s.2.1<0∧(s.1≠5∨s.2.2.2.2.1≠1)then(D3h,(4,()))else
 if s.1=5 then C3a d s else
 if(C4k (d.1.getD (tAt d.1 s.2.1).toNat C27) (d.2.getD (tAt d.1 s.2.1).toNat []) s).2.1=0 then((d.1,d.2.set (tAt d.1 s.2.1).toNat (C4k (d.1.getD (tAt d.1 s.2.1).toNat C27) (d.2.getD (tAt d.1 s.2.1).toNat []) s).1),(0,()))
 else(D3h,(10+(C4k (d.1.getD (tAt d.1 s.2.1).toNat C27) (d.2.getD (tAt d.1 s.2.1).toNat []) s).2.1,()))
theorem F14 {s:B4e}(h:B3v s=true)(k5:s.1=5):B49 s.2.2.2.2=true∧s.2.1=s.2.2.2.2.2.1:=by
 simp only[B3v,k5,if_true,zJ,zG]at h
 exact⟨h.1.1.1,h.1.1.2⟩
def D5d (c:Int):Prop:=0≤c∧c≤100
theorem D8b (x:B26)(d:B3r):D5d (C3v x d):=by
 unfold C3v D5d
 repeat' split
 all_goals omega
theorem E7k (l:B2o)(d:B3r):D5d (C3b l d):=by
 unfold C3b
 split
 ·split
  ·exact⟨by omega,by omega⟩
  ·split
   ·exact⟨by omega,by omega⟩
   ·exact⟨by omega,by omega⟩
 ·split
  ·exact⟨by omega,by omega⟩
  ·exact D8b _ _
theorem E6i (l:B2o)(d:B3r):D5d (B4p l d).2.1:=by
 unfold B4p
 split
 ·split
  ·exact⟨by simp,by simp⟩
  ·exact E7k _ _
 ·exact⟨by simp,by simp⟩
theorem E7l (x:B26)(l:B2s)(s:B4e):D5d (C4k x l s).2.1:=by
 unfold C4k
 split
 ·unfold C09
  repeat' split
  all_goals exact⟨by simp,by simp⟩
 split
 ·unfold C98
  repeat' split
  all_goals exact⟨by simp,by simp⟩
 split
 ·unfold C97
  repeat' split
  all_goals exact⟨by simp,by simp⟩
 split
 ·unfold C4l
  split
  ·split
   ·exact⟨by simp,by simp⟩
   ·exact D8b _ _
  ·exact⟨by simp,by simp⟩
 ·exact⟨by simp,by simp⟩
theorem E9u {c:Int}(h:D5d c):IntKind.wrap .i64 ((10:Int)+c)=10+c:=by
 obtain⟨h1,h2⟩:=h
 rw[wrap64]<;>omega
theorem C8s:EV fun n=>∀d:B4z,C1m 1048576 d→B56 n d.1 d.2=some d:=(C7f.and (B8d.and (EV.gt 1048577))).up fun n ⟨h1,h2,hn⟩ d hs=>by
 have hl:=hs.2.1
 simp only[B56,h1 d.1 hs.1,zC]
 refine(C4p d.2 (fun _ x (s:B9n)=>s++[x]) (fun j k acc=>B8c n j d.2 (d.2.length:Int) (k:Int) [] [] d.1 acc) (fun s=>some (d.1,s)) (fun k s=>s.length≤k) (fun k hk s h=>?_) (fun j acc _=>?_) (fun j k acc hk ha=>?_) d.2 n 0 [] rfl (by omega) (by omega) (Nat.le_refl 0)).trans ?_
 ·rw[List.length_append];simp only[zW,zX];omega
 ·simp only[B8c,B27,zP,zH,zA]
 ·have e:=h2 d.2[k] (hs.2.2 _ (zL hk))
  have r3:∀x:E3d,room (acc.length+[x].length) 24=true:=fun x=>by simp only[room,zG,zW,zX];omega
  simp only[B8c,B27,zD hk,B25 hk,zE,getD_at hk,zB,B28 hk (by omega),e,zC,r3]
 ·rw[E2t];rfl
theorem D1o {d:B4z}(hd:B4f d=true)(s:B4e){t:B26}{i:Nat}(hi:i<d.1.length)(e:t.1=d.1[i].1):C0f d s t=if d.1[i].1=s.2.1 then(C4l d.1[i] (d.2[i]'(by have:=(C1x hd).1;omega)) s.2.2.2.2).1 else d.2[i]'(by have:=(C1x hd).1;omega):=by
 obtain⟨hc,hl,_⟩:=B4l hd
 have hi2:i<d.2.length:=by omega
 unfold C0f
 rw[e,D5h hc hi,if_pos (by omega)]
 simp only[zE,getD_at hi,getD_at hi2]
theorem D64 (x:B26):∀l:B2o,(∀t∈l,t.1≠x.1)→∃p,p≤l.length∧tAt (B9w x l) x.1=(p:Int)∧B9w x l=l.take p++[x]++l.drop p
 |[],_=>⟨0,by simp,by simp[B9w,tAt,idx,idxFrom],by simp[B9w]⟩
 |y::l,h=>by
  simp only[B9w]
  split
  ·exact⟨0,by simp,by simp[tAt,idx,idxFrom],by simp⟩
  ·obtain⟨p,h1,h2,h3⟩:=D64 x l fun t ht=>h t (zF _ ht)
   refine⟨p+1,by simp;omega,?_,by rw[h3];simp⟩
   have hy:decide (y.1=x.1)=false:=zK (h y (zM ..))
   have e:tAt (y::B9w x l) x.1=idxFrom (fun t:B26=>decide (t.1=x.1)) (B9w x l) 1:=D60 (p:=fun t:B26=>decide (t.1=x.1)) hy
   rw[e]
   rcases C4h (fun t:B26=>decide (t.1=x.1)) (B9w x l) 1 with⟨_,g⟩|⟨m,_,g2,g3⟩
   ·have h2':idxFrom (fun t:B26=>decide (t.1=x.1)) (B9w x l) 0=(p:Int):=h2
    rw[g]at h2';omega
   ·have h2':idxFrom (fun t:B26=>decide (t.1=x.1)) (B9w x l) 0=(p:Int):=h2
    rw[g2]at h2'
    rw[g3];omega
theorem E5v {d:B4z}(hd:B4f d=true)(s:B4e)(hn:tAt d.1 s.2.1<0):d.1.map (C0f d s)=d.2:=by
 obtain⟨hc,hl,_⟩:=B4l hd
 refine List.ext_getElem (by simp[hl]) fun j h1 h2=>?_
 have hj:j<d.1.length:=by simpa using h1
 rw[List.getElem_map,D1o hd s hj rfl,if_neg]
 intro e
 have:=C39.mpr ⟨d.1[j],zL hj,e⟩
 omega
theorem D1p {d:B4z}(hd:B4f d=true)(s:B4e){i:Nat}(ei:tAt d.1 s.2.1=(i:Int)){j:Nat}(hj:j<d.1.length)(hne:j≠i):C0f d s d.1[j]=d.2[j]'(by have:=(C1x hd).1;omega):=by
 obtain⟨hc,hl,_⟩:=B4l hd
 rw[D1o hd s hj rfl,if_neg]
 intro e
 have:=D5h hc hj
 rw[e,ei]at this
 omega
theorem E9h {d:B4z}(hd:B4f d=true)(s:B4e){i:Nat}(ei:tAt d.1 s.2.1=(i:Int)):(B4a d.1 i).map (C0f d s)=B4a d.2 i:=by
 obtain⟨hc,hl,_⟩:=B4l hd
 have h1:(d.1.take i).map (C0f d s)=d.2.take i:=by
  refine List.ext_getElem (by simp[hl]) fun j h1 h2=>?_
  simp only[List.length_map,List.length_take]at h1
  rw[List.getElem_map,List.getElem_take,List.getElem_take]
  exact D1p hd s ei (by omega) (by omega)
 have h2:(d.1.drop (i+1)).map (C0f d s)=d.2.drop (i+1):=by
  refine List.ext_getElem (by simp[hl]) fun j h1 h2=>?_
  simp only[List.length_map,List.length_drop]at h1
  rw[List.getElem_map,List.getElem_drop,List.getElem_drop]
  exact D1p hd s ei (by omega) (by omega)
 simp only[B4a,List.map_append,h1,h2]
theorem E9i {d:B4z}(hd:B4f d=true)(s:B4e){i:Nat}(ei:tAt d.1 s.2.1=(i:Int))(hi:i<d.1.length){t:B26}(ht:t.1=d.1[i].1):
  (d.1.set i t).map (C0f d s)=d.2.set i (C4l d.1[i] (d.2[i]'(by have:=(C1x hd).1;omega)) s.2.2.2.2).1:=by
 obtain⟨hc,hl,_⟩:=B4l hd
 have hni:d.1[i].1=s.2.1:=by
  obtain⟨h,e⟩:=C8p (fun t:B26=>decide (t.1=s.2.1)) d.1 0 i (by rw[zS];exact ei)
  rwa[zG]at e
 refine List.ext_getElem (by simp[hl]) fun j h1 h2=>?_
 have hj:j<d.1.length:=by simpa using h1
 rw[List.getElem_map,List.getElem_set,List.getElem_set]
 split
 ·rename_i e;subst e
  rw[D1o hd s hi ht,if_pos hni]
 ·rename_i e
  exact D1p hd s ei hj fun h=>e h.symm
theorem D6t:EV fun n=>∀(d:B4z) (s:B4e),C1m 1048576 d→C48 1048576 s→B4f d=true→B3v s=true→s.1=5→C23 n d.1 d.2 s.2.2.2.2.1 s.2.2.2.2.2.1 s.2.2.2.2.2.2.1 s.2.2.2.2.2.2.2.1 s.2.2.2.2.2.2.2.2.1 s.2.2.2.2.2.2.2.2.2=
  some (if(B4p d.1 s.2.2.2.2).2.1=0 then C3a d s else(D3h,((B4p d.1 s.2.2.2.2).2.1,()))):=(D51.and (C8s.and (B9s.and (D6o.and (EV.gt 100))))).up fun n ⟨h1,h2,h3,h4,hn⟩ d s hd hs ok sk k5=>by
 obtain⟨m,rfl⟩:∃m,n=m+1:=⟨n - 1,by omega⟩
 obtain⟨hc,hl,hrow⟩:=B4l ok
 obtain⟨dk,htb⟩:=F14 sk k5
 have hl6:=(C1x ok).2
 have hsm:=E7g hd.1 hs.2.2.2
 have e3:=fun l hl'=>h3 l s.2.2.2.2.2.1 hl'
 simp only[show∀l:B2o,idx (fun t:B26=>decide (t.1=s.2.2.2.2.2.1)) l=tAt l s.2.1 from fun l=>by rw[htb];rfl]at e3
 simp only[C23,h1 d.1 s.2.2.2.2 hd.1 hs.2.2.2,zC,B6z,B39,h2 d hd,e3 d.1 hd.1.1,e3 _ hsm.1]
 by_cases hz:(B4p d.1 s.2.2.2.2).2.1=0
 rotate_left
 ·simp only[hz,zH,zU,zB,if_false];rfl
 have hcode:C3b d.1 s.2.2.2.2=0:=by
  simp only[B4p,hc,dk,and_self,if_true]at hz
  by_cases h:C3b d.1 s.2.2.2.2=0
  ·exact h
  ·rw[if_neg h]at hz;exact absurd hz h
 have hcat:(B4p d.1 s.2.2.2.2).1=C1w d.1 s.2.2.2.2:=by simp[B4p,hc,dk,hcode]
 simp only[hz,zI,zT,zA,if_true,C3a,hcat]
 by_cases k1:s.2.2.2.2.1=1
 ·have hno:¬0≤tAt d.1 s.2.1:=fun h=>by
   simp only[C3b,k1,if_true]at hcode
   rw[htb]at h
   rw[if_pos h]at hcode;cases hcode
  have hno':∀t∈d.1,t.1≠s.2.2.2.2.2.1:=fun t ht e=>hno (C39.mpr ⟨t,ht,e.trans htb.symm⟩)
  obtain⟨p,hp,ep,es⟩:=D64 (s.2.2.2.2.2.1,(s.2.2.2.2.2.2.1,s.2.2.2.2.2.2.2.1)) d.1 hno'
  have ep':tAt (C1w d.1 s.2.2.2.2) s.2.1=(p:Int):=by rw[htb];simp only[C1w,k1,if_true];exact ep
  have hins:B1k 24 d.2 (p:Int) [([]:E3d)]=some (d.2.take p++[[]]++d.2.drop p):=E97 (by omega) (by simp only[room,zG];omega)
  simp only[k1,zI,zB,ep',B4x,hins,zC]
  congr 3
  simp only[C1w,k1,if_true]
  rw[es]
  have hm:=E5v ok s (by omega)
  simp only[List.map_append,List.map_cons,List.map_nil,List.map_take,List.map_drop,hm]
  congr 2
  simp only[C0f]
  rw[if_neg (by rw[←htb];exact hno)]
 obtain⟨i,ei,hi,hf⟩:=D1a hcode k1
 rw[←htb]at ei
 have hi2:i<d.2.length:=by omega
 simp only[k1,zH,zA,ei]
 by_cases k2:s.2.2.2.2.1=2
 ·simp only[k2,zI,zB,B4w,B28 hi (by omega),E8g hi2,zC]
  congr 3
  simp only[C1w,k2,show¬(2:Int)=1 by decide,if_false,if_true]
  rw[←htb,ei,zE,E9h ok s ei]
 ·have e4:=h4 d.1[i] d.2[i] s.2.2.2.2 (hd.1.2 _ (zL hi)) (hd.2.2 _ (zL hi2)) hs.2.2.2
  simp only[k2,zH,zA,B25 hi,B25 hi2,zB,zE,getD_at hi,getD_at hi2,e4,zC]
  congr 3
  simp only[C1w,k1,k2,if_false]
  rw[←htb,ei,zE,getD_at hi,E9i ok s ei hi (t:=C11 d.1[i] s.2.2.2.2) rfl]
theorem E3w:EV fun n=>∀(d:B4z) (s:B4e),C1m 1048576 d→C48 1048576 s→B4f d=true→B3v s=true→C9c n d.1 d.2 s.1 s.2.1 s.2.2.1 s.2.2.2.1 s.2.2.2.2.1 s.2.2.2.2.2.1 s.2.2.2.2.2.2.1 s.2.2.2.2.2.2.2.1 s.2.2.2.2.2.2.2.2.1 s.2.2.2.2.2.2.2.2.2=some (D1b d s):=(B9s.and (D6t.and (D8p.and (D8q.and (D8o.and C8s))))).up fun n ⟨h1,h2,h3,h4,h5,h6⟩ d s hd hs ok sk=>by
 have e1:=h1 d.1 s.2.1 hd.1.1
 rw[show idx (fun t:B26=>decide (t.1=s.2.1)) d.1=tAt d.1 s.2.1 from rfl]at e1
 obtain⟨hc,hl,_⟩:=B4l ok
 simp only[C9c,e1,h6 d hd,zC,B39,B6z,D1b]
 by_cases k5:s.1=5
 ·have e2:=h2 d s hd hs ok sk k5
  have key:∀(β:Type) (f:B4z×(Int×Unit)→Option β),(some (if(B4p d.1 s.2.2.2.2).2.1=0 then C3a d s else(D3h,((B4p d.1 s.2.2.2.2).2.1,())))).bind f=f (if(B4p d.1 s.2.2.2.2).2.1=0 then C3a d s else(D3h,((B4p d.1 s.2.2.2.2).2.1,()))):=fun _ _=>rfl
  simp only[k5,zI,zT,zB,zA,e2,key,ne_eq,not_true_eq_false,false_or,if_true]
  have fin:(bif !decide ((if(B4p d.1 s.2.2.2.2).2.1=0 then C3a d s else(D3h,((B4p d.1 s.2.2.2.2).2.1,()))).2.1=0)then
    some ((([]:B2o),([]:B9n)),(IntKind.wrap .i64 ((10:Int)+(if(B4p d.1 s.2.2.2.2).2.1=0 then C3a d s else(D3h,((B4p d.1 s.2.2.2.2).2.1,()))).2.1),()))
    else some (((if(B4p d.1 s.2.2.2.2).2.1=0 then C3a d s else(D3h,((B4p d.1 s.2.2.2.2).2.1,()))).1.1,(if(B4p d.1 s.2.2.2.2).2.1=0 then C3a d s else(D3h,((B4p d.1 s.2.2.2.2).2.1,()))).1.2),(0,())))=some (C3a d s):=by
   by_cases hz:(B4p d.1 s.2.2.2.2).2.1=0
   ·have e:(C3a d s).2.1=0:=by simp[C3a,hz]
    have e':C3a d s=((C3a d s).1,(0,())):=by rw[C3a,if_pos hz]
    simp only[if_pos hz,e,zI,zT,zA]
    rw[e']
   ·simp only[if_neg hz,hz,zH,zU,zB,E9u (E6i d.1 s.2.2.2.2),C3a,if_false]
    rfl
  by_cases c:tAt d.1 s.2.1<0
  ·by_cases k1:s.2.2.2.2.1=1
   ·simp only[zD c,k1,zI,zB,zT,zA,not_true_eq_false,and_false,if_false]
    exact fin
   ·simp only[zD c,k1,zH,zB,zU,not_false_eq_true,and_true,if_pos c];rfl
  ·simp only[zK c,zA,c,false_and,if_false]
   exact fin
 ·simp only[k5,zH,zU,zB,zA,ne_eq,not_false_eq_true,true_or,and_true,if_false]
  rcases C9i d.1 s.2.1 with cn|⟨i,ei,hi⟩
  ·simp only[zD cn,zB,if_pos cn];rfl
  ·have z:¬((i:Int)<0):=by omega
   have hi2:i<d.2.length:=by omega
   have hx:=hd.1.2 _ (zL hi)
   have hr:=hd.2.2 _ (zL hi2)
   simp only[ei,zK z,zA,B25 hi,B25 hi2,zB,zE,getD_at hi,getD_at hi2,if_neg z]
   have w:=E9u (E7l d.1[i] d.2[i] s)
   by_cases k1:s.1=1
   ·have e:C4k d.1[i] d.2[i] s=C09 d.1[i] d.2[i] s.2.2.2.1:=by simp[C4k,k1]
    rw[e]at w
    simp only[k1,zI,zB,h3 d.1[i] d.2[i] _ hx hr hs.2.2.1.1,zC,w,e]
    by_cases hz:(C09 d.1[i] d.2[i] s.2.2.2.1).2.1=0
    ·simp only[hz,zI,zT,zA,if_true]
    ·simp only[hz,zH,zU,zB,if_false];rfl
   by_cases k2:s.1=2
   ·have e:C4k d.1[i] d.2[i] s=C98 d.1[i] d.2[i] s.2.2.1 s.2.2.2.1:=by simp[C4k,k2]
    rw[e]at w
    simp only[k2,show¬(2:Int)=1 by decide,zH,zA,zI,zB,h4 d.1[i] d.2[i] _ _ hx hr hs.2.1.1 hs.2.2.1.1,zC,w,e]
    by_cases hz:(C98 d.1[i] d.2[i] s.2.2.1 s.2.2.2.1).2.1=0
    ·simp only[hz,zI,zT,zA,if_true]
    ·simp only[hz,zH,zU,zB,if_false];rfl
   by_cases k3:s.1=3
   ·have e:C4k d.1[i] d.2[i] s=C97 d.1[i] d.2[i] s.2.2.1:=by simp[C4k,k3]
    rw[e]at w
    simp only[k3,show¬(3:Int)=1 by decide,show¬(3:Int)=2 by decide,zH,zA,zI,zB,h5 d.1[i] d.2[i] _ hx hr,zC,w,e]
    by_cases hz:(C97 d.1[i] d.2[i] s.2.2.1).2.1=0
    ·simp only[hz,zI,zT,zA,if_true]
    ·simp only[hz,zH,zU,zB,if_false];rfl
   ·have e:C4k d.1[i] d.2[i] s=([],(0,())):=by simp[C4k,k1,k2,k3,k5]
    simp only[k1,k2,k3,zH,zA,zI,zT,e,if_true]
theorem E1f {l:B2o}(h6:l.length≤6)(ht:∀t∈l,B2g t=true)(hs:∀k (hk:k+1<l.length),B98 l[k].1 l[k+1].1=true):B68 l=true:=by
 simp only[B68,zD h6,zG1]
 refine(B4u _ _ _).mpr fun i hi=>?_
 simp only[zS,B4q,ht _ (zL hi),zG1,Bool.or_eq_true,zG]
 cases i with
 |zero=>exact .inl rfl
 |succ i=>
  right
  rw[Nat.add_sub_cancel,getD_at (show i<l.length by omega)]
  exact hs i hi
theorem E5s {l:B2o}(h:B68 l=true):l.Pairwise fun a b=>B98 a.1 b.1=true:=
 List.pairwise_iff_getElem.mpr fun i j hi hj hij=>C2n h i j hij hj
theorem E52 {l:B2o}(h6:l.length≤6)(ht:∀t∈l,B2g t=true)(hp:l.Pairwise fun a b=>B98 a.1 b.1=true):B68 l=true:=
 E1f h6 ht fun k hk=>List.pairwise_iff_getElem.mp hp k (k+1) (by omega) hk (by omega)
theorem E7s {x:B26}(h:B2g x=true){k:ByteArray}(hk:k∈x.2.2):∃p:Nat,B2t x.2.1 k=(p:Int)∧∃hp:p<x.2.1.length,x.2.1[p].1=k∧x.2.1[p].2.2.1=true:=by
 obtain⟨a1,a2,a3⟩:=(B8s h).1 k hk
 rcases C8o x.2.1 k with c|⟨p,e,hp,e2⟩
 ·omega
 ·refine⟨p,e,hp,e2,?_⟩
  rw[e,zE,getD_at hp]at a3
  exact a3
theorem C53 {x:B26}(h:B2g x=true):B3h x.1=true:=by
 simp only[B2g,zJ]at h
 exact h.1.1.1.1
theorem E7u {cs:B2x}{r:B2m}:B5g cs r=true↔r.length=cs.length∧∀i (h1:i<cs.length) (h2:i<r.length),B9r cs[i] r[i]=true:=by
 simp only[B5g,zJ,zG]
 constructor
 ·rintro⟨h1,h2⟩
  refine⟨h1,fun i hi hi2=>?_⟩
  have:=C1h h2 hi
  rwa[getD_at hi2]at this
 ·rintro⟨h1,h2⟩
  refine⟨h1,(B4u _ _ _).mpr fun i hi=>?_⟩
  rw[zS,getD_at (show i<r.length by omega)]
  exact h2 i hi (by omega)
theorem F0l {c:B2o}{q:B9n}(hc:B68 c=true)(hl:q.length=c.length)(hr:∀i (h1:i<c.length) (h2:i<q.length),B3t c[i] q[i]=true):B4f (c,q)=true:=by
 simp only[B4f,hc,hl,zI,zG1]
 refine(B4u _ _ _).mpr fun i hi=>?_
 rw[zS,getD_at (show i<q.length by omega)]
 exact hr i hi (by omega)
def C1a (s:ByteArray):Prop:=∀x∈sI s,x≠10
theorem E9d {a b:ByteArray}(h1:C1a a)(h2:C1a b):C1a (a++b):=by
 intro x hx
 rw[C28]at hx
 rcases zY.mp hx with hx|hx
 ·exact h1 x hx
 ·exact h2 x hx
theorem E2z {L:List ByteArray}(h:∀w∈L,C1a w):C1a (B8p L):=by
 cases L with
 |nil=>unfold C1a;decide
 |cons a r=>
  intro x hx
  rw[join_cons,E43]at hx
  rcases zY.mp hx with hx|hx
  ·exact h a (zM ..) x hx
  ·obtain⟨w,hw,hx⟩:=zB1.mp hx
   rcases List.mem_cons.mp hx with rfl|hx
   ·decide
   ·exact h w (zF _ hw) x hx
theorem C6n {s:ByteArray}(h:B3h s=true):C1a s:=by
 simp only[B3h,zJ,List.all_eq_true]at h
 intro x hx
 obtain⟨b,hb,rfl⟩:=List.mem_map.mp hx
 have:=h.1 b hb
 simp only[lower,zG]at this
 omega
theorem E34:∀(t:List UInt8),∀x∈B4v t,x≠10
 |[],x,hx=>by simp[B4v]at hx
 |b::t,x,hx=>by
  have hh:∀k:Fin 16,C68 k.val≠10:=by decide
  simp only[B4v]at hx
  rcases zY.mp hx with hx|hx
  ·unfold C4w at hx
   split at hx
   ·rename_i hp
    have hp:33≤b.toNat:=hp.1
    simp at hx;omega
   ·have hb:b.toNat<256:=b.toNat_lt
    simp at hx
    rcases hx with hx|hx|hx
    ·omega
    ·rw[hx];exact hh ⟨b.toNat / 16,by omega⟩
    ·rw[hx];exact hh ⟨b.toNat % 16,by omega⟩
  ·exact E34 t x hx
theorem F0x (a:Int):C1a (B2y a):=by
 intro x hx
 unfold B2y at hx
 split at hx
 ·split at hx
  ·rw[C28]at hx
   rcases zY.mp hx with hx|hx
   ·have:sI E2y=[45]:=by decide
    rw[this]at hx;simp at hx;omega
   ·have:=C4n 14 (-a) (by omega) x hx;omega
  ·have:=C4n 14 a (by omega) x hx;omega
 ·have:sI E0=[]:=by decide
  rw[this]at hx;simp at hx
theorem E5q (v:B3m):C1a (B2i v):=by
 unfold B2i
 split
 ·split
  ·unfold C1a;decide
  ·split
   ·unfold C4d
    split
    ·unfold C1a;decide
    ·unfold C1a;decide
   ·split
    ·exact F0x _
    ·rw[C1a,D3l]
     intro x hx
     rcases List.mem_cons.mp hx with rfl|hx
     ·decide
     ·rcases zY.mp hx with hx|hx
      ·exact E34 _ x hx
      ·simp at hx;omega
 ·unfold C1a;decide
theorem E39:∀(L:List ByteArray),(∀w∈L,C1a w)→spl 10 (L.flatMap fun w=>sI w++[10]) []=L.map sI++[[]]
 |[],_=>rfl
 |w::L,h=>by
  rw[zV,List.append_assoc,D3r _ _ _ (h w (zM ..))]
  simp only[List.nil_append,List.singleton_append,spl,if_true,List.map_cons,List.cons_append]
  rw[E39 L fun y hy=>h y (zF _ hy)]
def B9l (data:B9n):List B26→Nat→List ByteArray
 |[],_=>[]
 |t::r,i=>B2u (B94 t)::((data.getD i []).map (fun row=>B2f (B6t t row))++B9l data r (i+1))
theorem E5w {α:Type}(g:α→ByteArray):∀(l:List α) (acc:ByteArray),sI (C7h g acc l)=sI acc++(l.map g).flatMap fun w=>sI w++[10]
 |[],acc=>by simp[C7h]
 |x::t,acc=>by
  have e:sI nl=[10]:=by decide
  simp only[C7h]
  rw[E5w g t,C28,C28,e]
  simp
theorem E9j (data:B9n):∀(l:List B26) (i:Nat) (acc:ByteArray),sI (dbT data l i acc)=sI acc++(B9l data l i).flatMap fun w=>sI w++[10]
 |[],i,acc=>by simp[dbT,B9l]
 |t::r,i,acc=>by
  have e:sI nl=[10]:=by decide
  simp only[dbT,B9l]
  rw[E9j data r,E5w,C28,C28,e]
  simp
theorem D91 {c:B4t}(h:B3n c=true):∀w∈B6q c,C2k w∧C1a w∧w≠C1g:=by
 intro w hw
 have hn:B3h c.1=true:=by
  simp only[B3n,zJ]at h;exact h.1.1
 have ht:=C63 h
 simp only[B6q,zY,List.mem_cons,List.not_mem_nil,or_false]at hw
 have d1:∀w:ByteArray,w=⟨#[110,111,116]⟩→C2k w∧C1a w∧w≠C1g:=by rintro _ rfl;unfold C2k C1a;decide
 rcases hw with((hw|hw)|hw)|hw
 ·rw[hw]
  refine⟨C1b hn,C6n hn,fun e=>?_⟩
  rw[e]at hn;revert hn;decide
 ·rw[hw]
  rcases D3x ht with e|e|e<;>rw[e]<;>unfold C2k C1a<;>decide
 ·split at hw
  ·simp only[List.mem_cons,List.not_mem_nil,or_false]at hw;exact d1 w hw
  ·simp at hw
 ·split at hw
  ·simp only[List.mem_cons,List.not_mem_nil,or_false]at hw
   rename_i hd
   have hv:vOk c.2.2.2.2=true:=by
    simp only[B3n,zJ]at h
    have h2:=h.2
    rw[if_pos hd]at h2
    simp only[zJ]at h2
    exact h2.1
   have e61:sI (⟨#[61]⟩:ByteArray)=[61]:=by decide
   rw[hw]
   refine⟨fun x hx=>?_,E9d (by unfold C1a;decide) (E5q _),fun e=>?_⟩
   ·rw[C28,e61]at hx
    rcases zY.mp hx with hx|hx
    ·simp at hx;omega
    ·exact(D3y hv).1 x hx
   ·have:=congrArg sI e
    rw[C28,e61]at this
    have hc:sI C1g=[41]:=by decide
    rw[hc]at this
    simp at this
  ·simp at hw
theorem F1f {a:Int}(h:1≤a∧a≤3):tyS (tyN a)=a:=by
 rcases D3x h with rfl|rfl|rfl<;>decide
theorem E7m {c:B4t}(h:B3n c=true)(hs:∀t∈B6q c,t.size≤1048576):C2o tyS (B6q c)=c:=by
 have ht:=C63 h
 obtain⟨w,a,r,d,v⟩:=c
 simp only[B3n,zJ]at h
 have h2:=h.2
 have h0:C0x ⟨#[110,111,116]⟩ (false,(false,(0,(0,E0))))=(true,(false,(0,(0,E0)))):=by
  unfold C0x;rw[if_pos (by rfl)]
 have hv:d=true→vOk v=true:=by
  intro e;subst e
  simp only[if_true,zJ]at h2;exact h2.1
 have h1:d=true→∀f:Bool×(Bool×B3m),C0x (⟨#[61]⟩++B2i v) f=(f.1,(true,v)):=by
  intro e f
  have hv:=hv e
  have e61:sI (⟨#[61]⟩:ByteArray)=[61]:=by decide
  have hsz:((⟨#[61]⟩:ByteArray)++B2i v).size=1+(B2i v).size:=by rw[ByteArray.size_append];rfl
  have n1:(⟨#[61]⟩:ByteArray)++B2i v≠E69:=by
   intro e
   have:=congrArg sI e
   rw[C28,e61]at this
   have hc:sI E69=[110,111,116]:=by decide
   rw[hc]at this;simp at this
  have hb:bt ((⟨#[61]⟩:ByteArray)++B2i v) 0=61:=by
   have:=E84 (s:=(⟨#[61]⟩:ByteArray)++B2i v) (k:=0) (by omega)
   rw[show((0:Nat):Int)=0 from rfl]at this
   rw[this]
   simp[ByteArray.data_append]
  have n2:E40 ((⟨#[61]⟩:ByteArray)++B2i v)=true:=by
   unfold E40;rw[hb];simp[hsz];omega
  have n3:((⟨#[61]⟩:ByteArray)++B2i v).extract 1 ((⟨#[61]⟩:ByteArray)++B2i v).size=B2i v:=by
   apply E9k
   rw[D1q,C28,e61,hsz]
   have:(sI (B2i v)).length=(B2i v).size:=by unfold sI;rw[List.length_map,B3y]
   simp only[List.singleton_append,List.drop_succ_cons,List.drop_zero]
   rw[List.take_of_length_le (by omega)]
  unfold C0x
  rw[if_neg n1,if_pos n2,n3,D8a hv]
  have:=hs (⟨#[61]⟩++B2i v) (by simp only[B6q,zY,List.mem_cons];right;simp[e])
  omega
 unfold C2o
 simp only[B6q]
 rw[if_neg (by simp)]
 simp only[List.cons_append,List.nil_append,List.getD_cons_zero,List.getD_cons_succ,List.drop_succ_cons,List.drop_zero,F1f ht,flags]
 cases r<;>cases d
 ·simp only[Bool.false_eq_true,if_false,List.nil_append,List.foldl_nil]at h2⊢
  rw[zG]at h2
  rw[h2];rfl
 ·simp only[Bool.false_eq_true,if_false,if_true,List.nil_append,List.foldl_cons,List.foldl_nil,h1 rfl]
 ·simp only[Bool.false_eq_true,if_false,if_true,zH1,List.foldl_cons,List.foldl_nil,h0]at h2⊢
  rw[zG]at h2
  rw[h2];rfl
 ·simp only[if_true,List.cons_append,List.nil_append,List.foldl_cons,List.foldl_nil,h0,h1 rfl]
def D3z:ByteArray:=⟨#[107,101,121]⟩
theorem E56:∀(cs:B2x) (ks:List ByteArray) (f:Nat) (acc:B2x),(∀c∈cs,B3n c=true)→(∀t∈B3o cs,t.size≤1048576)→(B3o cs++[D3z]++ks).length<f→crt tyS f (B3o cs++[D3z]++ks) acc=(acc++cs,ks)
 |[],ks,f,acc,_,_,hf=>by
  obtain⟨f,rfl⟩:∃i,f=i+1:=⟨f - 1,by simp at hf;omega⟩
  simp only[crt,B3o,List.nil_append,List.singleton_append,zW,List.getD_cons_zero,zH1,List.drop_succ_cons,List.drop_zero]
  rw[if_neg (by omega),if_neg (by decide)]
 |c::cs,ks,f,acc,hc,hs,hf=>by
  obtain⟨f,rfl⟩:∃i,f=i+1:=⟨f - 1,by simp at hf;omega⟩
  have e:B3o (c::cs)++[D3z]++ks=(D40::B6q c)++C1g::(B3o cs++[D3z]++ks):=by
   simp[B3o,D40,C1g]
  have hcc:=hc c (zM ..)
  have hi:idx pc ((D40::B6q c)++C1g::(B3o cs++[D3z]++ks))=(((B6q c).length+1:Nat):Int):=by
   unfold idx
   rw[D50 (p:=pc) (D40::B6q c) (B3o cs++[D3z]++ks) C1g 0 (fun y hy=>?_) (by decide)]
   ·simp
   ·rcases List.mem_cons.mp hy with rfl|hy
    ·decide
    ·exact zK (D91 hcc y hy).2.2
  rw[e]at hf⊢
  simp only[crt]
  rw[if_neg (by simp),if_pos (by rfl),hi,if_neg (by omega),zE]
  have t1:(((D40::B6q c)++C1g::(B3o cs++[D3z]++ks)).take ((B6q c).length+1)).drop 1=B6q c:=by
   rw[List.take_left' (by simp)];rfl
  have t2:((D40::B6q c)++C1g::(B3o cs++[D3z]++ks)).drop ((B6q c).length+1+1)=B3o cs++[D3z]++ks:=by
   rw[←List.drop_drop,List.drop_left' (by simp)];rfl
  rw[t1,t2,E7m hcc fun t ht=>hs t (by simp[B3o,ht])]
  rw[E56 cs ks f _ (fun x hx=>hc x (zF _ hx)) (fun t ht=>hs t (by simp[B3o,ht])) (by simp at hf⊢;omega)]
  simp
theorem D59 {x:B26}(h:B2g x=true):∀k∈x.2.2,B3h k=true:=by
 intro k hk
 obtain⟨p,_,hp,e,_⟩:=E7s h hk
 have:=B7r h _ (zL hp)
 simp only[B3n,zJ]at this
 rw[←e];exact this.1.1
theorem D7i {x:B26}(h:B2g x=true):B49 (B94 x)=true:=by
 have hw:=C53 h
 unfold B49 B94
 simp only[if_true,zI,zG1,zJ]
 exact⟨hw,h⟩
theorem C6i {x:B26}:C41 (B94 x)=C17::x.1::(B3o x.2.1++[D3z]++x.2.2):=by
 simp[C41,B94,E0s,D3z];rfl
theorem D8d:∀{cs:B2x},(∀c∈cs,B3n c=true)→∀w∈B3o cs,C2k w∧C1a w
 |[],_,w,hw=>by simp[B3o]at hw
 |c::cs,h,w,hw=>by
  simp only[B3o,zY,List.mem_cons,List.not_mem_nil,or_false]at hw
  rcases hw with((hw|hw)|hw)|hw
  ·rw[hw];unfold C2k C1a;decide
  ·have:=D91 (h c (zM ..)) w hw;exact⟨this.1,this.2.1⟩
  ·rw[hw];unfold C2k C1a;decide
  ·exact D8d (fun x hx=>h x (zF _ hx)) w hw
theorem E55 {x:B26}(h:B2g x=true):∀w∈C41 (B94 x),C2k w∧C1a w:=by
 intro w hw
 rw[C6i]at hw
 simp only[zY,List.mem_cons,List.not_mem_nil,or_false]at hw
 rcases hw with hw|hw|(hw|hw)|hw
 ·rw[hw];unfold C2k C1a;decide
 ·rw[hw];exact⟨C1b (C53 h),C6n (C53 h)⟩
 ·exact D8d (B7r h) w hw
 ·rw[hw];unfold C2k C1a;decide
 ·exact⟨C1b (D59 h w hw),C6n (D59 h w hw)⟩
def D37 (x:B26):B4e:=(5,(x.1,([],([],B94 x))))
theorem E5t {x:B26}(h:B2g x=true)(hz:(B2u (B94 x)).size≤1048576):C1i (B2u (B94 x))=(D37 x,(true,())):=by
 have hs:B2u (B94 x)=B8p (C41 (B94 x)):=by unfold B2u;rw[if_pos (D7i h)]
 have hc:B33 (B2u (B94 x)) 32=C17::x.1::(B3o x.2.1++[D3z]++x.2.2):=by
  rw[hs,D8h (by rw[C6i];simp) fun w hw=>(E55 h w hw).1,C6i]
 have hw:=(C3q 32 hz).2
 rw[hc]at hw
 have hr:C2p tyS (B3o x.2.1++[D3z]++x.2.2)=(x.2.1,x.2.2):=by
  unfold C2p
  rw[E56 x.2.1 x.2.2 _ [] (B7r h) (fun t ht=>hw t (by simp[ht])) (Nat.lt_succ_self _)]
  rfl
 have hd:B93 (B2u (B94 x))=(B94 x,(true,())):=by
  unfold B93
  rw[hc,if_neg (by simp)]
  simp only[List.getD_cons_zero,List.getD_cons_succ,List.drop_succ_cons,List.drop_zero,if_true,hr]
  exact if_pos rfl
 unfold C1i
 rw[hc,if_neg (by simp)]
 simp only[List.getD_cons_zero,List.getD_cons_succ,List.drop_succ_cons,List.drop_zero,hd,if_true]
 rw[if_neg (by decide),if_neg (by decide),if_neg (by decide),if_neg (by decide)]
 rfl
theorem E5u {x:B26}{r:B2m}(h:B3v (B6t x r)=true)(hz:(B2f (B6t x r)).size≤1048576):C1i (B2f (B6t x r))=(B6t x r,(true,())):=by
 have hv:=C4e (D3s h rfl)
 have hn:B3h x.1=true:=by
  have h':=h
  unfold B3v B6t at h'
  rw[if_neg (show¬(1:Int)=5 by decide)]at h'
  simp only[zJ]at h';exact h'.1.1
 have hs:B2f (B6t x r)=B8p ([C9s,x.1]++B37 r):=by
  unfold B2f;rw[if_pos h,if_pos (show(B6t x r).1=1 from rfl)];rfl
 have hc:B33 (B2f (B6t x r)) 32=[C9s,x.1]++B37 r:=by
  rw[hs,D8h (by simp) fun w hw=>?_]
  simp only[zY,List.mem_cons,List.not_mem_nil,or_false]at hw
  rcases hw with(hw|hw)|hw
  ·rw[hw];exact E5r
  ·rw[hw];exact C1b hn
  ·exact(C1r hv.1 w hw).1
 have hw:=(C3q 32 hz).2
 rw[hc]at hw
 unfold C1i
 rw[hc,if_neg (by simp)]
 simp only[List.cons_append,List.nil_append,List.getD_cons_zero,List.getD_cons_succ,List.drop_succ_cons,List.drop_zero,if_true]
 rw[D3m r hv.1 hv.2 fun t ht=>hw t (by simp[ht])]
 exact if_pos rfl
theorem E5k {x:B26}{r:B2m}:C1a (B2f (B6t x r)):=by
 unfold B2f
 split
 ·rename_i h
  have hn:B3h x.1=true:=by
   unfold B3v B6t at h
   rw[if_neg (show¬(1:Int)=5 by decide)]at h
   simp only[zJ]at h;exact h.1.1
  rw[if_pos (show(B6t x r).1=1 from rfl)]
  refine E2z fun w hw=>?_
  simp only[zY,List.mem_cons,List.not_mem_nil,or_false]at hw
  rcases hw with(hw|hw)|hw
  ·rw[hw];unfold C1a;decide
  ·rw[hw];exact C6n hn
  ·obtain⟨y,_,rfl⟩:=List.mem_map.mp hw
   exact E5q y
 ·unfold C1a;decide
theorem E7a {x:B26}{r:B2m}(h:B2g x=true)(hr:B5g x.2.1 r=true):B3v (B6t x r)=true:=by
 obtain⟨h1,h2⟩:=E7u.mp hr
 have ht:=h
 simp only[B2g,zJ,zG]at ht
 have hlen:=ht.1.1.1.2
 have hall:r.all vOk=true:=by
  rw[List.all_eq_true]
  intro v hv
  obtain⟨i,hi,rfl⟩:=List.mem_iff_getElem.mp hv
  have:=h2 i (by omega) hi
  simp only[B9r,zJ]at this
  exact this.1
 unfold B3v B6t
 rw[if_neg (show¬(1:Int)=5 by decide)]
 simp only[C53 h,zI,if_true,B5s,hall,Bool.and_true,zG1]
 exact zD ⟨by omega,by omega⟩
theorem E2x (data:B9n):∀(l:List B26) (i:Nat),(∀k,(data.getD k []).length≤60)→(B9l data l i).length≤61*l.length
 |[],_,_=>Nat.le_refl 0
 |t::r,i,h=>by
  have:=E2x data r (i+1) h
  have:=h i
  simp only[B9l,zW,List.length_append,List.length_map];omega
theorem D5b (data:B9n):∀(l:List B26) (i:Nat),∀w∈B9l data l i,∃k,∃hk:k<l.length,w=B2u (B94 l[k])∨∃r∈data.getD (i+k) [],w=B2f (B6t l[k] r)
 |[],_,w,hw=>by simp[B9l]at hw
 |t::r,i,w,hw=>by
  simp only[B9l,List.mem_cons,zY,List.mem_map]at hw
  rcases hw with hw|⟨a,ha,hw⟩|hw
  ·exact⟨0,by simp,.inl hw⟩
  ·exact⟨0,by simp,.inr ⟨a,ha,hw.symm⟩⟩
  ·obtain⟨k,hk,h⟩:=D5b data r (i+1) w hw
   refine⟨k+1,by simp;omega,?_⟩
   rw[show i+(k+1)=i+1+k by omega]
   exact h
theorem F0s {d:B4z}(h:B4f d=true){k:Nat}(hk:k<d.1.length){r:B2m}(hr:r∈d.2.getD k []):B2g d.1[k]=true∧B5g d.1[k].2.1 r=true:=by
 obtain⟨_,hl,hrow⟩:=B4l h
 have h2:k<d.2.length:=by omega
 rw[getD_at h2]at hr
 have:=B70 (hrow k hk h2)
 exact⟨this.1,this.2.2 r hr⟩
theorem E8e {d:B4z}(h:B4f d=true):B33 (B84 d) 10=B9l d.2 d.1 0++[E0]∧(B9l d.2 d.1 0).length≤366∧((B84 d).size≤1048576→∀w∈B9l d.2 d.1 0,(C1i w).2.1=true):=by
 obtain⟨hc,hl,hrow⟩:=B4l h
 have hcat:=B99 hc
 have hnl:∀w∈B9l d.2 d.1 0,C1a w:=by
  intro w hw
  obtain⟨k,hk,e|⟨r,hr,e⟩⟩:=D5b _ _ _ w hw
  ·rw[e]
   unfold B2u
   split
   ·exact E2z fun w hw=>(E55 (hcat.2 _ (zL hk)) w hw).2
   ·unfold C1a;decide
  ·rw[e];exact E5k
 have hcut:B33 (B84 d) 10=B9l d.2 d.1 0++[E0]:=by
  apply D1i
  rw[E51,B84,if_pos h,E9j]
  have e0:sI E0=[]:=by decide
  rw[e0,List.nil_append,E39 _ hnl]
  simp[e0]
 refine⟨hcut,?_,fun hz w hw=>?_⟩
 ·have:=E2x d.2 d.1 0 fun k=>by
   by_cases hk:k<d.2.length
   ·rw[getD_at hk];exact(B70 (hrow k (by omega) hk)).2.1
   ·rw[List.getD,List.getElem?_eq_none (by omega)];exact Nat.zero_le _
  have:=hcat.1
  omega
 ·have hsz:=(C3q 10 hz).2 w (by rw[hcut];exact zZ _ hw)
  obtain⟨k,hk,e|⟨r,hr,e⟩⟩:=D5b _ _ _ w hw
  ·rw[e]at hsz⊢
   rw[E5t (hcat.2 _ (zL hk)) hsz]
  ·rw[zS]at hr
   obtain⟨a,b⟩:=F0s h hk hr
   rw[e]at hsz⊢
   rw[E5u (E7a a b) hsz]
theorem B46.bind {α γ:Type}{b:List Int}{P:α→Prop}{Q:Option γ→Prop}{r:Option (α×(((List Int)×(Int×Int))×Unit))}{f:α×(((List Int)×(Int×Int))×Unit)→Option γ}
  (h:B46 b P r) (hf:∀x i g,0≤i→P x→Q (f (x,((b,(i,g)),())))):Q (r.bind f):=by
 obtain⟨x,i,g,rfl,hi,px⟩:=h
 exact hf x i g hi px
theorem B87 {γ:Type}{Q:Option γ→Prop}{c:Bool}{A B:Option γ}(h1:c=true→Q A)(h0:c=false→Q B):Q (bif c then A else B):=by
 cases c
 ·exact h0 rfl
 ·exact h1 rfl
theorem C4o {γ:Type}{Q:Option γ→Prop}{c:Bool}{A:Option γ}(hc:c=true)(h:Q A):Q (bif c then A else none):=by
 subst hc;exact h
theorem B46.mk {α:Type}{b:List Int}{P:α→Prop}{x:α}{i g:Int}(hi:0≤i)(hp:P x):B46 b P (some (x,((b,(i,g)),()))):=⟨x,i,g,rfl,hi,hp⟩
theorem B46.mono {α:Type}{b:List Int}{P Q:α→Prop}{r:Option (α×(((List Int)×(Int×Int))×Unit))}(h:B46 b P r)(hq:∀x,P x→Q x):B46 b Q r:=by
 obtain⟨x,i,g,e,hi,px⟩:=h
 exact⟨x,i,g,e,hi,hq x px⟩
theorem D88 {x:Int}{m n:Nat}(hm:0<m)(hn:m=n)(q:((0:Int)<(m:Int)→0≤x∧x<(m:Int))∧((m:Int)≤0→x=0)):inR x n=true:=by
 obtain⟨h1,h2⟩:=q.1 (by omega)
 exact zD ⟨h1,by omega⟩
theorem C6k {l:List ByteArray}{k:Nat}{m:Nat}(h:∀x∈l,x.size≤m):(l.getD k E0).size≤m:=by
 by_cases hk:k<l.length
 ·rw[getD_at hk];exact h _ (zL hk)
 ·rw[List.getD,List.getElem?_eq_none (by omega)];exact Nat.zero_le _
theorem D5x:EV fun n=>∀(b:List Int) (i h:Int),b.length≤1048576→0≤i→B46 b (fun s:ByteArray=>s.size≤9) (C2c n b i h):=B86.up fun n hW b i h hb hi=>by
 simp only[C2c]
 refine(hW b i h 6 hb hi (by omega)).bind fun x i1 g1 p1 q1=>?_
 refine C4o (D88 (m:=6) (by decide) (by decide) q1) (.mk p1 (C6k ?_))
 decide
theorem E6m:EV fun n=>∀(b:List Int) (i h:Int) (w:ByteArray),b.length≤1048576→0≤i→w.size≤1048576→B46 b (B6u 1048576) (C5m n b i h w):=(B86.and D4v).up fun n ⟨hW,hO⟩ b i h w hb hi hw=>by
 simp only[C5m]
 refine(hW b i h 3 hb hi (by omega)).bind fun x1 i1 g1 p1 q1=>?_
 refine(hW b i1 g1 3 hb p1 (by omega)).bind fun x2 i2 g2 p2 q2=>?_
 refine(hW b i2 g2 2 hb p2 (by omega)).bind fun x3 i3 g3 p3 q3=>?_
 refine B87 (fun _=>?_) fun _=> .mk p3 ⟨hw,Nat.zero_le _⟩
 refine(hO b i3 g3 _ hb p3).bind fun v i4 g4 p4 q4=>?_
 have hv:B5i 1048576 v:=Nat.le_trans q4 (by decide)
 exact B87 (fun _=>B87 (fun _=> .mk p4 ⟨hw,Nat.zero_le _⟩) fun _=> .mk p4 ⟨hw,hv⟩) fun _=> .mk p4 ⟨hw,hv⟩
def B6k (m:Nat)(t:B26):Prop:=t.1.size≤9∧1≤t.2.1.length∧t.2.1.length≤m∧t.2.2.length≤m∧(∀c∈t.2.1,B6u 1048576 c)∧∀k∈t.2.2,k.size≤1048576
theorem B6k.mono {m n:Nat}{t:B26}(h:B6k m t)(hm:m≤n):B6k n t:=⟨h.1,h.2.1,by have:=h.2.2.1;omega,by have:=h.2.2.2.1;omega,h.2.2.2.2⟩
theorem B6k.sm {m:Nat}{t:B26}(h:B6k m t)(hm:m≤1048576):B3f 1048576 t:=⟨Nat.le_trans h.1 (by decide),⟨Nat.le_trans h.2.2.1 hm,h.2.2.2.2.1⟩,⟨Nat.le_trans h.2.2.2.1 hm,h.2.2.2.2.2⟩⟩
theorem F17:B6u 1048576 CZ:=⟨Nat.zero_le _,Nat.zero_le _⟩
theorem D3e {l:B2x}{k:Nat}(h:∀c∈l,B6u 1048576 c):B6u 1048576 (l.getD k CZ):=by
 by_cases hk:k<l.length
 ·rw[getD_at hk];exact h _ (zL hk)
 ·rw[List.getD,List.getElem?_eq_none (by omega)];exact F17
theorem F0d {l:B2x}{k:Nat}{c:B4t}(h:∀c∈l,B6u 1048576 c)(hc:B6u 1048576 c):∀x∈l.set k c,B6u 1048576 x:=by
 intro x hx
 rcases List.mem_or_eq_of_mem_set hx with e|e
 ·exact h x e
 ·rw[e];exact hc
theorem D1g:EV fun n=>∀(b:List Int) (i h:Int) (w:ByteArray),b.length≤1048576→0≤i→w.size≤9→B46 b (B6k 5) (C0l n b i h w):=(B86.and (D5x.and (E6m.and (C5w.and (EV.gt 10))))).up fun n ⟨hW,hS,hC,hA,hn⟩ b i h w hb hi hw=>by
 simp only[C0l]
 refine(hW b i h 4 hb hi (by omega)).bind fun x i1 g1 p1 q1=>?_
 have q1:=q1.1 (by omega)
 obtain⟨m,rfl⟩:=Int.eq_ofNat_of_zero_le q1.1
 have loop:∀(m j:Nat) (i g:Int) (e:ByteArray) (cs:B2x),m<j→0≤i→B6k 4 (w,(cs,[⟨#[105,100]⟩]))→cs.length+m≤4→B46 b (B6k 5) (B60 n j (m:Int) b i g e [] [] w cs [⟨#[105,100]⟩]):=by
  intro m
  induction m with
  |zero=>
   intro j i g e cs hj hi ht hm
   obtain⟨j,rfl⟩:∃j',j=j'+1:=⟨j - 1,by omega⟩
   have hl:=ht.2.1
   simp only at hl
   have w1:IntKind.wrap .i64 ((cs.length:Int) - (1:Int))=((cs.length - 1:Nat):Int):=by rw[wrap64]<;>omega
   have e0:decide ((0:Int)<((0:Nat):Int))=false:=rfl
   simp only[B60,e0,zA,w1,B25 (show cs.length - 1<cs.length by omega),zB,zE]
   refine B87 (fun _=>B87 (fun _=>?_) fun _=> .mk hi (ht.mono (by omega))) fun _=> .mk hi (ht.mono (by omega))
   refine(hW b i g 3 hb hi (by omega)).bind fun x i2 g2 p2 q2=>?_
   refine B87 (fun _=>C4o (by simp[room]) (.mk p2 ?_)) fun _=> .mk p2 (ht.mono (by omega))
   refine⟨ht.1,ht.2.1,Nat.le_trans ht.2.2.1 (by omega),by simp,ht.2.2.2.2.1,fun k hk=>?_⟩
   rcases zY.mp hk with hk|hk
   ·exact ht.2.2.2.2.2 k hk
   ·rw[zF1.mp hk];exact(D3e ht.2.2.2.2.1).1
  |succ m ih=>
   intro j i g e cs hj hi ht hm
   obtain⟨j,rfl⟩:∃j',j=j'+1:=⟨j - 1,by omega⟩
   have e0:decide ((0:Int)<((m+1:Nat):Int))=true:=zD (by omega)
   have w1:IntKind.wrap .i64 (((m+1:Nat):Int) - (1:Int))=(m:Int):=by rw[wrap64]<;>omega
   simp only[B60,e0,zB,w1]
   refine(hS b i g hb hi).bind fun s i2 g2 p2 q2=>?_
   have hs:s.size≤1048576:=Nat.le_trans q2 (by decide)
   have hcl:cs.length≤1048576:=by omega
   simp only[hA w cs [⟨#[105,100]⟩] s hcl,zC]
   refine B87 (fun _=>?_) fun _=>ih j i2 g2 e cs (by omega) p2 ht (by omega)
   refine(hC b i2 g2 s hb p2 hs).bind fun c i3 g3 p3 q3=>?_
   refine C4o (by simp[room];omega) (ih j i3 g3 e _ (by omega) p3 ?_ (by simp;omega))
   refine⟨ht.1,by simp,by simp;omega,ht.2.2.2.1,fun x hx=>?_,ht.2.2.2.2.2⟩
   rcases zY.mp hx with hx|hx
   ·exact ht.2.2.2.2.1 x hx
   ·rw[zF1.mp hx];exact q3
 refine loop m n i1 g1 E0 _ (by omega) p1 ⟨hw,by simp,by simp,by simp,fun c hc=>?_,fun k hk=>?_⟩ (by simp;omega)
 ·rw[zF1.mp hc];exact⟨by decide,Nat.zero_le _⟩
 ·rw[zF1.mp hk];decide
theorem in0 {m:Nat}(h:1≤m):inR (0:Int) m=true:=B25 (k:=0) h
theorem E0o {m:Nat}{nm:ByteArray}{cs:B2x}{ks:B3l}{k:Nat}{c:B4t}(h:B6k m (nm,(cs,ks)))(hc:B6u 1048576 c):B6k m (nm,(cs.set k c,ks)):=
 ⟨h.1,by have:=h.2.1;simpa using this,by have:=h.2.2.1;simpa using this,h.2.2.2.1,F0d h.2.2.2.2.1 hc,h.2.2.2.2.2⟩
theorem E1i:EV fun n=>∀(b:List Int) (i h:Int),b.length≤1048576→0≤i→B46 b (B6k 8) (C5l n b i h):=(B86.and (D5x.and (D8i.and D1g))).up fun n ⟨hW,hS,hA,hT⟩ b i h hb hi=>by
 have k7:∀(i g:Int) (e1:ByteArray) (e2:B2x) (e3:B3l) (nm:ByteArray) (cs:B2x) (ks:B3l),0≤i→B6k 8 (nm,(cs,ks))→B46 b (B6k 8) (C05 n 1 b i g e1 e2 e3 nm cs ks):=by
  intro i g e1 e2 e3 nm cs ks hi ht
  simp only[C05]
  exact .mk hi ht
 have k6:∀(k i g:Int) (e1:ByteArray) (e2:B2x) (e3:B3l) (nm:ByteArray) (cs:B2x) (ks:B3l),0≤i→B6k 8 (nm,(cs,ks))→B46 b (B6k 8) (C04 n 1 k b i g e1 e2 e3 nm cs ks):=by
  intro k i g e1 e2 e3 nm cs ks hi ht
  simp only[C04]
  exact B87 (fun _=>C4o (in0 ht.2.1) (k7 _ _ _ _ _ _ _ _ hi (E0o ht (D3e ht.2.2.2.2.1)))) fun _=>k7 _ _ _ _ _ _ _ _ hi ht
 have k5:∀(k i g:Int) (e1:ByteArray) (e2:B2x) (e3:B3l) (nm:ByteArray) (cs:B2x) (ks:B3l),0≤i→B6k 8 (nm,(cs,ks))→B46 b (B6k 8) (C03 n 1 k b i g e1 e2 e3 nm cs ks):=by
  intro k i g e1 e2 e3 nm cs ks hi ht
  simp only[C03]
  exact B87 (fun _=>k6 _ _ _ _ _ _ _ _ _ hi ⟨ht.1,ht.2.1,ht.2.2.1,Nat.zero_le _,ht.2.2.2.2.1,fun k hk=>by cases hk⟩) fun _=>k6 _ _ _ _ _ _ _ _ _ hi ht
 have k4:∀(k c i g:Int) (e1:ByteArray) (e2:B2x) (e3:B3l) (nm:ByteArray) (cs:B2x) (ks:B3l),0≤i→inR c cs.length=true→B6k 7 (nm,(cs,ks))→B46 b (B6k 8) (C02 n 1 k c b i g e1 e2 e3 nm cs ks):=by
  intro k c i g e1 e2 e3 nm cs ks hi hc ht
  simp only[C02]
  have hl:=ht.2.2.1
  simp only at hl
  refine B87 (fun _=>C4o hc (C4o (by simp[room];omega) (k5 _ _ _ _ _ _ _ _ _ hi ⟨ht.1,by simp,by simp;omega,Nat.le_trans ht.2.2.2.1 (by decide),fun x hx=>?_,ht.2.2.2.2.2⟩))) fun _=>k5 _ _ _ _ _ _ _ _ _ hi (ht.mono (by decide))
  rcases zY.mp hx with hx|hx
  ·exact ht.2.2.2.2.1 x hx
  ·rw[zF1.mp hx];exact D3e (l:=cs) ht.2.2.2.2.1
 have k3:∀(k c i g:Int) (e1:ByteArray) (e2:B2x) (e3:B3l) (nm:ByteArray) (cs:B2x) (ks:B3l),0≤i→inR c cs.length=true→B6k 6 (nm,(cs,ks))→B46 b (B6k 8) (C01 n 1 k c b i g e1 e2 e3 nm cs ks):=by
  intro k c i g e1 e2 e3 nm cs ks hi hc ht
  simp only[C01]
  have hl:=ht.2.2.2.1
  simp only at hl
  refine B87 (fun _=>?_) fun _=>k4 _ _ _ _ _ _ _ _ _ _ hi hc (ht.mono (by decide))
  refine(hS b i g hb hi).bind fun s i2 g2 p2 q2=>?_
  refine C4o (by simp[room];omega) (k4 _ _ _ _ _ _ _ _ _ _ p2 hc ⟨ht.1,ht.2.1,Nat.le_trans ht.2.2.1 (by decide),by simp;omega,ht.2.2.2.2.1,fun x hx=>?_⟩)
  rcases zY.mp hx with hx|hx
  ·exact ht.2.2.2.2.2 x hx
  ·rw[zF1.mp hx];exact Nat.le_trans q2 (by decide)
 have k2:∀(k c i g:Int) (e1:ByteArray) (e2:B2x) (e3:B3l) (nm:ByteArray) (cs:B2x) (ks:B3l),0≤i→inR c cs.length=true→B6k 6 (nm,(cs,ks))→B46 b (B6k 8) (C00 n 1 k c b i g e1 e2 e3 nm cs ks):=by
  intro k c i g e1 e2 e3 nm cs ks hi hc ht
  simp only[C00]
  refine B87 (fun _=>?_) fun _=>k3 _ _ _ _ _ _ _ _ _ _ hi hc ht
  refine(hA b i g hb hi).bind fun v i2 g2 p2 q2=>?_
  exact C4o hc (k3 _ _ _ _ _ _ _ _ _ _ p2 (by rw[List.length_set];exact hc) (E0o ht ⟨(D3e (l:=cs) ht.2.2.2.2.1).1,Nat.le_trans q2 (by decide)⟩))
 have k1:∀(k c i g:Int) (e1:ByteArray) (e2:B2x) (e3:B3l) (nm:ByteArray) (cs:B2x) (ks:B3l),0≤i→inR c cs.length=true→B6k 6 (nm,(cs,ks))→B46 b (B6k 8) (B9z n 1 k c b i g e1 e2 e3 nm cs ks):=by
  intro k c i g e1 e2 e3 nm cs ks hi hc ht
  simp only[B9z]
  refine B87 (fun _=>?_) fun _=>k2 _ _ _ _ _ _ _ _ _ _ hi hc ht
  refine(hW b i g 6 hb hi (by omega)).bind fun v i2 g2 p2 q2=>?_
  exact C4o hc (k2 _ _ _ _ _ _ _ _ _ _ p2 (by rw[List.length_set];exact hc) (E0o ht (D3e (l:=cs) ht.2.2.2.2.1)))
 simp only[C5l]
 refine(hT b i h _ hb hi (by decide)).bind fun t i1 g1 p1 q1=>?_
 have hl1:=q1.2.1
 have hl5:=q1.2.2.1
 refine(hW b i1 g1 14 hb p1 (by omega)).bind fun x i2 g2 p2 q2=>?_
 refine(hW b i2 g2 (t.2.1.length:Int) hb p2 (by omega)).bind fun y i3 g3 p3 q3=>?_
 have hy:=D88 (show 0<t.2.1.length by omega) rfl q3
 refine B87 (fun _=>?_) fun _=>k1 _ _ _ _ _ _ _ _ _ _ p3 hy (q1.mono (by decide))
 refine(hW b i3 g3 3 hb p3 (by omega)).bind fun z i4 g4 p4 q4=>?_
 refine C4o (D88 (m:=3) (by decide) (by decide) q4) (k1 _ _ _ _ _ _ _ _ _ _ p4 hy ?_)
 have:=q1.mono (n:=6) (by decide)
 exact⟨C6k (by decide),this.2⟩
theorem E4q {l:B2o}{m:Nat}{t:B26}(h:∀x∈l,B6k m x)(ht:B6k m t):∀x∈l++[t],B6k m x:=by
 intro x hx
 rcases zY.mp hx with hx|hx
 ·exact h x hx
 ·rw[zF1.mp hx];exact ht
def C6f (k:Nat)(l:B2o):Prop:=l.length≤k∧∀x∈l,B6k 8 x
theorem room_le {m n k:Nat}(h:m≤n)(hn:n*k≤140737488355328)(hk:n≤140737488355328):room m k=true:=by
 simp only[room,zG]
 exact⟨Nat.le_trans (Nat.mul_le_mul_right k h) hn,Nat.le_trans h hk⟩
theorem D8j:EV fun n=>∀(b:List Int) (i h:Int),b.length≤1048576→0≤i→B46 b (C6f 3) (C3p n b i h):=(B86.and (D1g.and (EV.gt 10))).up fun n ⟨hW,hT,hn⟩ b i h hb hi=>by
 have loop:∀(t j k:Nat) (i g:Int) (e:B2o) (cs:B2o),k+t=3→t<j→0≤i→cs.length≤k→(∀x∈cs,B6k 8 x)→B46 b (C6f 3) (B6w n j (3:Int) (k:Int) b i g e cs [⟨#[111]⟩,⟨#[116]⟩,⟨#[117]⟩]):=by
  intro t
  induction t with
  |zero=>
   intro j k i g e cs hk hj hi hc hm
   obtain⟨j,rfl⟩:∃j',j=j'+1:=⟨j - 1,by omega⟩
   have e0:decide ((k:Int)<(3:Int))=false:=zK (by omega)
   simp only[B6w,e0,zA]
   exact .mk hi ⟨by omega,hm⟩
  |succ t ih=>
   intro j k i g e cs hk hj hi hc hm
   obtain⟨j,rfl⟩:∃j',j=j'+1:=⟨j - 1,by omega⟩
   have e0:decide ((k:Int)<(3:Int))=true:=zD (by omega)
   have hr:inR (k:Int) (List.length [(⟨#[111]⟩:ByteArray),⟨#[116]⟩,⟨#[117]⟩])=true:=B25 (show k<3 by omega)
   simp only[B6w,e0,zB,hr,B28 (show k<3 by omega) (by omega)]
   refine(hW b i g 3 hb hi (by omega)).bind fun x i2 g2 p2 q2=>?_
   refine B87 (fun _=>?_) fun _=>ih j (k+1) i2 g2 e cs (by omega) (by omega) p2 (by omega) hm
   refine(hT b i2 g2 _ hb p2 (C6k (by decide))).bind fun t i3 g3 p3 q3=>?_
   exact C4o (room_le (n:=10) (by simp;omega) (by decide) (by decide)) (ih j (k+1) i3 g3 e _ (by omega) (by omega) p3 (by simp;omega) (E4q hm (q3.mono (by decide))))
 simp only[C3p]
 exact loop 3 n 0 i h [] [] (by omega) (by omega) hi (Nat.zero_le _) (fun x hx=>by cases hx)
theorem E1g:EV fun n=>∀(b:List Int) (i h:Int),b.length≤1048576→0≤i→B46 b (C6f 9) (C2b n b i h):=(B86.and (D8j.and (D1g.and (E1i.and (EV.gt 20))))).up fun n ⟨hW,hC,hT,hA,hn⟩ b i h hb hi=>by
 have k4:∀(i g:Int) (e cs:B2o),0≤i→C6f 9 cs→B46 b (C6f 9) (B7p n 1 b i g e cs):=by
  intro i g e cs hi h
  simp only[B7p]
  exact .mk hi h
 have loop:∀(m t j k:Nat) (i g:Int) (e:B2o) (cs:B2o) (ws:B3l),(∀w∈ws,w.size≤9)→m≤7→k+t=m→t<j→0≤i→cs.length≤k→(∀x∈cs,B6k 8 x)→B46 b (C6f 9) (B5w n j 0 m (m:Int) (k:Int) b i g e cs ws):=by
  intro m t
  induction t with
  |zero=>
   intro j k i g e cs ws hws h7 hk hj hi hc hm
   obtain⟨j,rfl⟩:∃j',j=j'+1:=⟨j - 1,by omega⟩
   have e0:decide ((k:Int)<(m:Int))=false:=zK (by omega)
   simp only[B5w,e0,zA]
   exact k4 _ _ _ _ hi ⟨by omega,hm⟩
  |succ t ih=>
   intro j k i g e cs ws hws h7 hk hj hi hc hm
   obtain⟨j,rfl⟩:∃j',j=j'+1:=⟨j - 1,by omega⟩
   have e0:decide ((k:Int)<(m:Int))=true:=zD (by omega)
   simp only[B5w,e0,zB,B25 (show k<m by omega),B28 (show k<m by omega) (by omega)]
   refine(hT b i g _ hb hi (C6k hws)).bind fun t i3 g3 p3 q3=>?_
   exact C4o (room_le (n:=10) (by simp;omega) (by decide) (by decide)) (ih j (k+1) i3 g3 e _ ws hws h7 (by omega) (by omega) p3 (by simp;omega) (E4q hm (q3.mono (by decide))))
 have k2:∀(k i g:Int) (e cs:B2o),0≤i→C6f 9 cs→B46 b (C6f 9) (B5v n 1 k b i g e cs):=by
  intro k i g e cs hi h
  simp only[B5v]
  refine B87 (fun _=>?_) fun _=>k4 _ _ _ _ hi h
  refine(hW b i g 2 hb hi (by omega)).bind fun x i2 g2 p2 q2=>?_
  have q2:=q2.1 (by omega)
  obtain⟨m,rfl⟩:=Int.eq_ofNat_of_zero_le q2.1
  have w1:IntKind.wrap .i64 ((6:Int)+(m:Int))=((6+m:Nat):Int):=by rw[wrap64]<;>omega
  have e1:decide (0≤((0:Nat):Int)∧((0:Nat):Int)≤((6+m:Nat):Int)∧((6+m:Nat):Int)≤(List.length [(⟨#[102]⟩:ByteArray),⟨#[103]⟩,⟨#[104]⟩,⟨#[105]⟩,⟨#[106]⟩,⟨#[107]⟩,⟨#[108]⟩]:Int))=true:=zD (by simp;omega)
  simp only[w1,e1,zB,zE,Nat.sub_zero]
  exact loop (6+m) (6+m) n 0 i2 g2 e [] _ (by decide) (by omega) (by omega) (by omega) p2 (Nat.le_refl 0) (fun x hx=>by cases hx)
 have k1:∀(k i g:Int) (e cs:B2o),0≤i→C6f 9 cs→B46 b (C6f 9) (B7o n 1 k b i g e cs):=by
  intro k i g e cs hi h
  simp only[B7o]
  refine B87 (fun _=>B87 (fun hp=>?_) fun _=>k2 _ _ _ _ _ hi h) fun _=>k2 _ _ _ _ _ hi h
  have hp:1≤cs.length:=by
   have:=of_decide_eq_true hp;omega
  refine C4o (in0 hp) (k2 _ _ _ _ _ hi ⟨by rw[List.length_set];exact h.1,fun x hx=>?_⟩)
  rcases List.mem_or_eq_of_mem_set hx with e|e
  ·exact h.2 x e
  ·have h0:cs.getD (0:Int).toNat C27∈cs:=by
    rw[show(0:Int).toNat=0 from rfl,getD_at (show 0<cs.length by omega)];exact zL _
   rw[e]
   exact⟨(by decide:(⟨#[122]⟩:ByteArray).size≤9),(h.2 _ h0).2⟩
 simp only[C2b]
 refine(hC b i h hb hi).bind fun cs i1 g1 p1 q1=>?_
 refine(hW b i1 g1 10 hb p1 (by omega)).bind fun x i2 g2 p2 q2=>?_
 have h3:=q1.1
 refine B87 (fun _=>?_) fun _=>k1 _ _ _ _ _ p2 ⟨Nat.le_trans h3 (by decide),q1.2⟩
 refine(hA b i2 g2 hb p2).bind fun t i3 g3 p3 q3=>?_
 exact C4o (room_le (n:=10) (by simp;omega) (by decide) (by decide)) (k1 _ _ _ _ _ p3 ⟨by simp;omega,E4q q1.2 q3⟩)
theorem E6n:EV fun n=>∀(b:List Int) (i h:Int) (t:B26),b.length≤1048576→0≤i→t.2.1.length≤20→B46 b (fun r:B2m=>r.length=t.2.1.length∧∀v∈r,B5i 1048576 v) (C4a n b i h t.1 t.2.1 t.2.2):=(D4v.and (EV.gt 30)).up fun n ⟨hO,hn⟩ b i h t hb hi ht=>by
 obtain⟨nm,cs,ks⟩:=t
 simp only at ht⊢
 have loop:∀(m j k:Nat) (i g:Int) (e r:B2m),k+m=cs.length→m<j→0≤i→r.length=k→(∀v∈r,B5i 1048576 v)→B46 b (fun r:B2m=>r.length=cs.length∧∀v∈r,B5i 1048576 v) (B4s n j cs (cs.length:Int) (k:Int) b i g e r):=by
  intro m
  induction m with
  |zero=>
   intro j k i g e r hk hj hi hr hv
   obtain⟨j,rfl⟩:∃j',j=j'+1:=⟨j - 1,by omega⟩
   have e0:decide ((k:Int)<(cs.length:Int))=false:=zK (by omega)
   simp only[B4s,e0,zA]
   exact .mk hi ⟨by omega,hv⟩
  |succ m ih=>
   intro j k i g e r hk hj hi hr hv
   obtain⟨j,rfl⟩:∃j',j=j'+1:=⟨j - 1,by omega⟩
   have e0:decide ((k:Int)<(cs.length:Int))=true:=zD (by omega)
   have hk1:k<cs.length:=by omega
   simp only[B4s,e0,zB,B25 hk1,B28 hk1 (by omega)]
   refine(hO b i g _ hb hi).bind fun v i2 g2 p2 q2=>?_
   have hv2:B5i 1048576 v:=Nat.le_trans q2 (by decide)
   have inner:∀(q j2 x:Nat) (i g:Int) (c:B4t) (v:B3m),x+q=9→q<j2→0≤i→B5i 1048576 v→
     B46 b (fun r:B2m=>r.length=cs.length∧∀v∈r,B5i 1048576 v) (B7e n (fun y40 y41 y42 y43 y44 y45 y46 y47=>B4s n j y40 y41 y42 y43 y44 y45 y46 y47) j2 (x:Int) cs (cs.length:Int) (k:Int) b i g e r c.1 c.2.1 c.2.2.1 c.2.2.2.1 c.2.2.2.2.1 c.2.2.2.2.2.1 c.2.2.2.2.2.2 v.1 v.2.1 v.2.2):=by
    intro q
    have fin:∀(i g:Int) (v:B3m),0≤i→B5i 1048576 v→B46 b (fun r:B2m=>r.length=cs.length∧∀v∈r,B5i 1048576 v) (B4s n j cs (cs.length:Int) ((k+1:Nat):Int) b i g e (r++[v])):=by
     intro i g v hi hsv
     refine ih j (k+1) i g e _ (by omega) (by omega) hi (by simp;omega) fun x hx=>?_
     rcases zY.mp hx with hx|hx
     ·exact hv x hx
     ·rw[zF1.mp hx];exact hsv
    have hroom:∀v:B3m,room (r.length+[v].length) 32=true:=fun v=>room_le (n:=40) (by simp;omega) (by decide) (by decide)
    induction q with
    |zero=>
     intro j2 x i g c v hx hj2 hi hsv
     obtain⟨j2,rfl⟩:∃j',j2=j'+1:=⟨j2 - 1,by omega⟩
     have e0:decide ((x:Int)<(9:Int))=false:=zK (by omega)
     simp only[B7e,e0,zA,B28 hk1 (by omega)]
     exact C4o (hroom _) (fin i g v hi hsv)
    |succ q ih2=>
     intro j2 x i g c v hx hj2 hi hsv
     obtain⟨j2,rfl⟩:∃j',j2=j'+1:=⟨j2 - 1,by omega⟩
     have e0:decide ((x:Int)<(9:Int))=true:=zD (by omega)
     simp only[B7e,e0,zB,B28 hk1 (by omega),B28 (show x<9 by omega) (by omega)]
     refine B87 (fun _=>B87 (fun _=>?_) fun _=>C4o (hroom _) (fin i g v hi hsv)) fun _=>C4o (hroom _) (fin i g v hi hsv)
     refine(hO b i g _ hb hi).bind fun v2 i2 g2 p2 q2=>?_
     exact ih2 j2 (x+1) i2 g2 c v2 (by omega) (by omega) p2 (Nat.le_trans q2 (by decide))
   exact inner 9 n 0 i2 g2 (cs.getD k CZ) v (by omega) (by omega) p2 hv2
 simp only[C4a]
 exact loop cs.length n 0 i h [] [] (by omega) (by omega) hi rfl (fun v hv=>by cases hv)
theorem E6e {x:B26}{l:B2s}{r:B7k}(_:B3f 1048576 x)(hl:B52 1048576 l)(hr:D1s 1048576 r):B52 1048576 (C09 x l r).1:=by
 unfold C09
 split
 ·rename_i h
  have h60:=(B70 h).2.1
  split
  ·split
   ·exact C9h
   ·split
    ·exact C9h
    ·refine⟨by rw[E6x];omega,fun y hy=>?_⟩
     rcases E6y hy with e|e
     ·exact hl.2 y e
     ·rw[e];exact hr
  ·exact C9h
 ·exact C9h
theorem E5b:EV fun n=>∀(b:List Int) (i h:Int) (t:B26),b.length≤1048576→0≤i→t.2.1.length≤20→B3f 1048576 t→1≤t.2.1.length→B46 b (fun l:B2s=>B52 1048576 l∧l.length≤60∧∀r∈l,1≤r.length) (C0m n b i h t.1 t.2.1 t.2.2):=(B86.and (E6n.and (D9e.and (EV.gt 10)))).up fun n ⟨hW,hR,hP,hn⟩ b i h t hb hi ht hs h1=>by
 have loop:∀(m j:Nat) (i g:Int) (l:B2s),m<j→m≤10→0≤i→(B52 1048576 l∧l.length≤60∧∀r∈l,1≤r.length)→B46 b (fun l:B2s=>B52 1048576 l∧l.length≤60∧∀r∈l,1≤r.length) (B61 n j (m:Int) b i g t.1 t.2.1 t.2.2 l):=by
  intro m
  induction m with
  |zero=>
   intro j i g l hj h10 hi hl
   obtain⟨j,rfl⟩:∃j',j=j'+1:=⟨j - 1,by omega⟩
   have e0:decide ((0:Int)<((0:Nat):Int))=false:=rfl
   simp only[B61,e0,zA]
   exact .mk hi hl
  |succ m ih=>
   intro j i g l hj h10 hi hl
   obtain⟨j,rfl⟩:∃j',j=j'+1:=⟨j - 1,by omega⟩
   have e0:decide ((0:Int)<((m+1:Nat):Int))=true:=zD (by omega)
   have w1:IntKind.wrap .i64 (((m+1:Nat):Int) - (1:Int))=(m:Int):=by rw[wrap64]<;>omega
   simp only[B61,e0,zB,w1]
   refine(hR b i g t hb hi ht).bind fun r i2 g2 p2 q2=>?_
   have hr:D1s 1048576 r:=⟨by omega,q2.2⟩
   simp only[hP t l r hs hl.1 hr.1,zC,B39]
   refine B87 (fun hz=>ih j i2 g2 _ (by omega) (by omega) p2 ⟨E6e hs hl.1 hr,?_⟩) fun _=>ih j i2 g2 _ (by omega) (by omega) p2 hl
   unfold C09
   split
   ·split
    ·split
     ·exact⟨Nat.zero_le _,fun r hr=>by cases hr⟩
     ·split
      ·exact⟨Nat.zero_le _,fun r hr=>by cases hr⟩
      ·have hlen:(B85 t l r).length=l.length+1:=by
        have:=congrArg List.length (List.takeWhile_append_dropWhile (p:=C2m t r) (l:=l))
        simp only[B85,List.length_append,zW,zX]at this⊢
        omega
       refine⟨by have:=hl.2.1;simp only[hlen];omega,fun x hx=>?_⟩
       simp only[B85,zY,zF1]at hx
       rcases hx with(hx|hx)|hx
       ·exact hl.2.2 x ((List.takeWhile_sublist _).subset hx)
       ·rw[hx];omega
       ·exact hl.2.2 x ((List.dropWhile_sublist _).subset hx)
    ·exact⟨Nat.zero_le _,fun r hr=>by cases hr⟩
   ·exact⟨Nat.zero_le _,fun r hr=>by cases hr⟩
 simp only[C0m]
 refine(hW b i h 7 hb hi (by omega)).bind fun x i1 g1 p1 q1=>?_
 have q1:=q1.1 (by omega)
 obtain⟨m,rfl⟩:=Int.eq_ofNat_of_zero_le q1.1
 exact loop m n i1 g1 [] (by omega) (by omega) p1 ⟨C9h,Nat.zero_le _,fun r hr=>by cases hr⟩
def E3b {α β:Type}(b:List Int)(P:α→β→Prop)(r:Option (α×(β×(((List Int)×(Int×Int))×Unit)))):Prop:=∃x y i h,r=some (x,(y,((b,(i,h)),())))∧0≤i∧P x y
theorem E3b.mk {α β:Type}{b:List Int}{P:α→β→Prop}{x:α}{y:β}{i g:Int}(hi:0≤i)(hp:P x y):E3b b P (some (x,(y,((b,(i,g)),())))):=⟨x,y,i,g,rfl,hi,hp⟩
theorem E3b.bind {α β γ:Type}{b:List Int}{P:α→β→Prop}{Q:Option γ→Prop}{r:Option (α×(β×(((List Int)×(Int×Int))×Unit)))}{f:α×(β×(((List Int)×(Int×Int))×Unit))→Option γ}
  (h:E3b b P r) (hf:∀x y i g,0≤i→P x y→Q (f (x,(y,((b,(i,g)),()))))):Q (r.bind f):=by
 obtain⟨x,y,i,g,rfl,hi,px⟩:=h
 exact hf x y i g hi px
def C8z (m:Nat)(l:B2s):Prop:=B52 1048576 l∧l.length≤m∧∀r∈l,1≤r.length
theorem C8z.set {m k:Nat}{l:B2s}{r:B7k}(h:C8z m l)(hr:D1s 1048576 r)(h1:1≤r.length):C8z m (l.set k r):=
 ⟨⟨by rw[List.length_set];exact h.1.1,fun x hx=>by
   rcases List.mem_or_eq_of_mem_set hx with e|e
   ·exact h.1.2 x e
   ·rw[e];exact hr⟩,by rw[List.length_set];exact h.2.1,fun x hx=>by
   rcases List.mem_or_eq_of_mem_set hx with e|e
   ·exact h.2.2 x e
   ·rw[e];exact h1⟩
theorem F0e {r:B7k}{k:Nat}{v:B3m}(h:D1s 1048576 r)(hv:B5i 1048576 v):D1s 1048576 (r.set k v):=
 ⟨by rw[List.length_set];exact h.1,fun x hx=>by
  rcases List.mem_or_eq_of_mem_set hx with e|e
  ·exact h.2 x e
  ·rw[e];exact hv⟩
def F0n (m:Nat)(d:B3r):Prop:=d.2.1.size≤1048576∧d.2.2.1.length≤m∧(∀c∈d.2.2.1,B6u 1048576 c)∧d.2.2.2.1.length≤m∧(∀k∈d.2.2.2.1,k.size≤1048576)∧d.2.2.2.2.1.size≤1048576∧d.2.2.2.2.2.size≤1048576
theorem F0n.sm {m:Nat}{d:B3r}(h:F0n m d)(hm:m≤1048576):B9y 1048576 d:=⟨h.1,⟨Nat.le_trans h.2.1 hm,h.2.2.1⟩,⟨Nat.le_trans h.2.2.2.1 hm,h.2.2.2.2.1⟩,h.2.2.2.2.2.1,h.2.2.2.2.2.2⟩
theorem E6o {n:Nat}{b:List Int}{i h:Int}{t:B26}(hR:∀(b:List Int) (i h:Int) (t:B26),b.length≤1048576→0≤i→t.2.1.length≤20→B3f 1048576 t→1≤t.2.1.length→B46 b (fun l:B2s=>B52 1048576 l∧l.length≤60∧∀r∈l,1≤r.length) (C0m n b i h t.1 t.2.1 t.2.2))(hb:b.length≤1048576)(hi:0≤i)(ht:B6k 8 t):
  B46 b (C8z 60) (C0m n b i h t.1 t.2.1 t.2.2):=hR b i h t hb hi (Nat.le_trans ht.2.2.1 (by decide)) (ht.sm (by decide)) ht.2.1
def C5x (m k:Nat)(d:B4z):Prop:=C6f m d.1∧d.2.length≤k∧∀l∈d.2,C8z 60 l
theorem C5x.sm {m k:Nat}{d:B4z}(h:C5x m k d)(hm:m≤1048576)(hk:k≤1048576):C1m 1048576 d:=
 ⟨⟨Nat.le_trans h.1.1 hm,fun t ht=>(h.1.2 t ht).sm (by decide)⟩,⟨Nat.le_trans h.2.1 hk,fun l hl=>(h.2.2 l hl).1⟩⟩
theorem E3t:EV fun n=>∀(b:List Int) (i h:Int),b.length≤1048576→0≤i→B46 b (C5x 3 3) (C4c n b i h):=(D8j.and (E5b.and (EV.gt 10))).up fun n ⟨hC,hR,hn⟩ b i h hb hi=>by
 simp only[C4c]
 refine(hC b i h hb hi).bind fun c i1 g1 p1 q1=>?_
 obtain⟨hl3,hcs⟩:=q1
 have loop:∀(t j k:Nat) (i g:Int) (e1:B2o) (e2 ds:B9n),k+t=c.length→t<j→0≤i→ds.length=k→(∀l∈ds,C8z 60 l)→B46 b (C5x 3 3) (B7f n j c (c.length:Int) (k:Int) b i g e1 e2 c ds):=by
  intro t
  induction t with
  |zero=>
   intro j k i g e1 e2 ds hk hj hi hd hm
   obtain⟨j,rfl⟩:∃j',j=j'+1:=⟨j - 1,by omega⟩
   have e0:decide ((k:Int)<(c.length:Int))=false:=zK (by omega)
   simp only[B7f,e0,zA]
   exact .mk hi ⟨⟨hl3,hcs⟩,by show ds.length≤3;omega,hm⟩
  |succ t ih=>
   intro j k i g e1 e2 ds hk hj hi hd hm
   obtain⟨j,rfl⟩:∃j',j=j'+1:=⟨j - 1,by omega⟩
   have hk1:k<c.length:=by omega
   have e0:decide ((k:Int)<(c.length:Int))=true:=zD (by omega)
   simp only[B7f,e0,zB,B25 hk1,zE,getD_at hk1,B28 hk1 (by omega)]
   refine(E6o hR hb hi (hcs _ (zL hk1))).bind fun l i3 g3 p3 q3=>?_
   refine C4o (room_le (n:=10) (by simp;omega) (by decide) (by decide)) (ih j (k+1) i3 g3 e1 e2 _ (by omega) (by omega) p3 (by simp;omega) fun x hx=>?_)
   rcases zY.mp hx with hx|hx
   ·exact hm x hx
   ·rw[zF1.mp hx];exact q3
 exact loop c.length n 0 i1 g1 [] [] [] (by omega) (by omega) p1 rfl (fun l hl=>by cases hl)
theorem E8d {k:Nat}{d:B9n}(hd:d.length≤k∧∀l∈d,C8z 60 l):(d++[([]:B2s)]).length≤k+1∧∀l∈d++[([]:B2s)],C8z 60 l:=by
 refine⟨by simp;exact hd.1,fun l hl=>?_⟩
 rcases zY.mp hl with hl|hl
 ·exact hd.2 l hl
 ·rw[zF1.mp hl];exact⟨C9h,Nat.zero_le _,fun r hr=>by cases hr⟩
theorem D6m:EV fun n=>∀(b:List Int) (i h:Int),b.length≤1048576→0≤i→B46 b (C5x 9 4) (C5o n b i h):=(B86.and (E3t.and (E1g.and D8i))).up fun n ⟨hW,hD,hC,hV⟩ b i h hb hi=>by
 simp only[C5o]
 refine(hD b i h hb hi).bind fun d i1 g1 p1 q1=>?_
 refine(hW b i1 g1 14 hb p1 (by omega)).bind fun x i2 g2 p2 q2=>?_
 have last:∀(i g:Int) (c:B2o) (ds:B9n),0≤i→C6f 9 c→(ds.length≤4∧∀l∈ds,C8z 60 l)→B46 b (C5x 9 4) (bif(x==(2:Int))then(bif(decide ((0:Int)<(ds.length:Int)))then(bif(inR (0:Int) ds.length)then(bif(decide ((0:Int)<((ds.getD (0:Int).toNat ([]:B2s)).length:Int)))then(bif(inR (0:Int) ds.length)then(bif(inR (0:Int) (ds.getD (0:Int).toNat ([]:B2s)).length)then((B7n n b i g).bind fun r16=>(bif(inR (0:Int) ((ds.getD (0:Int).toNat ([]:B2s)).getD (0:Int).toNat ([]:B2m)).length)then(some ((c,(ds.set (0:Int).toNat ((ds.getD (0:Int).toNat ([]:B2s)).set (0:Int).toNat (((ds.getD (0:Int).toNat ([]:B2s)).getD (0:Int).toNat ([]:B2m)).set (0:Int).toNat (r16.1.1,(r16.1.2.1,r16.1.2.2)))))),((r16.2.1.1,(r16.2.1.2.1,r16.2.1.2.2)),())))else none))else none)else none)else(some ((c,ds),((b,(i,g)),()))))else none)else(some ((c,ds),((b,(i,g)),()))))else(some ((c,ds),((b,(i,g)),())))):=by
  intro i g c ds hi hc ⟨hd4,hds⟩
  have same:B46 b (C5x 9 4) (some ((c,ds),((b,(i,g)),()))):= .mk hi ⟨hc,hd4,hds⟩
  refine B87 (fun _=>B87 (fun hp=>?_) fun _=>same) fun _=>same
  have hp:=of_decide_eq_true hp
  have h0:0<ds.length:=by omega
  simp only[show(0:Int).toNat=0 from rfl,getD_at h0]
  have hr:=hds _ (zL h0)
  refine C4o (in0 h0) (B87 (fun hq=>?_) fun _=>same)
  have hq:=of_decide_eq_true hq
  have h1:0<ds[0].length:=by omega
  simp only[getD_at h1]
  refine C4o (in0 h0) (C4o (in0 h1) ?_)
  refine(hV b i g hb hi).bind fun v i3 g3 p3 q3=>?_
  have t0:=hr.2.2 _ (zL h1)
  refine C4o (in0 t0) (.mk p3 ⟨hc,by show(ds.set 0 _).length≤4;rw[List.length_set];exact hd4,fun l hl=>?_⟩)
  rcases List.mem_or_eq_of_mem_set hl with e|e
  ·exact hds l e
  ·rw[e];exact hr.set (F0e (hr.1.2 _ (zL h1)) (Nat.le_trans q3 (by decide))) (by rw[List.length_set];exact t0)
 have d3:d.2.length≤3∧∀l∈d.2,C8z 60 l:=q1.2
 have d4:d.2.length≤4∧∀l∈d.2,C8z 60 l:=⟨by omega,d3.2⟩
 have c9:C6f 9 d.1:=⟨Nat.le_trans q1.1.1 (by decide),q1.1.2⟩
 have mid:∀(i g:Int) (c:B2o) (R1 R2:Option (B4z×(((List Int)×(Int×Int))×Unit))),B46 b (C5x 9 4) R1→B46 b (C5x 9 4) R2→B46 b (C5x 9 4) (bif(x==(1:Int))then(bif(room (d.2.length+[([]:B2s)].length) 24)then R1 else none)else R2):=by
  intro i g c R1 R2 h1 h2
  exact B87 (fun _=>C4o (room_le (n:=10) (by simp;omega) (by decide) (by decide)) h1) fun _=>h2
 refine B87 (fun _=>?_) fun _=>?_
 ·refine(hC b i2 g2 hb p2).bind fun c i3 g3 p3 q3=>?_
  exact mid i3 g3 c _ _ (last i3 g3 c _ p3 q3 (E8d d3)) (last i3 g3 c _ p3 q3 d4)
 ·exact mid i2 g2 d.1 _ _ (last i2 g2 d.1 _ p2 c9 (E8d d3)) (last i2 g2 d.1 _ p2 c9 d4)
theorem E1h:EV fun n=>∀b:List Int,b.length≤1048576→∃d:B4z,C15 n b=some d∧C1m 1048576 d:=(F0v.and D6m).up fun n ⟨hN,hA⟩ b hb=>by
 obtain⟨h,e0⟩:=hN b hb
 obtain⟨d,i1,g1,e1,p1,q1⟩:=hA b 0 h hb (by omega)
 simp only[C15,e0,e1,zC]
 exact⟨_,rfl,q1.sm (by decide) (by decide)⟩
theorem F0w (a:Int):(B2y a).size≤14:=by
 by_cases h: -1099511627775≤a∧a≤1099511627775
 ·have h1:=D66 h
  unfold C0t at h1
  split at h1
  ·omega
  ·cases h1
 ·have:B2y a=E0:=if_neg h
  rw[this];decide
theorem D67 (v:B3m):(B2i v).size≤200:=by
 unfold B2i
 split
 ·rename_i h
  split
  ·decide
  ·split
   ·unfold C4d;split<;>decide
   ·rename_i c0 c1
    split
    ·exact Nat.le_trans (F0w _) (by decide)
    ·rename_i c2
     have h30:v.2.2.size≤30:=by
      unfold B3x at h
      rw[if_neg c0,if_neg c1,if_neg c2]at h
      split at h
      ·simp only[zJ,zG]at h;exact h.2
      ·cases h
     have:=C6p v.2.2.data.toList
     rw[B3y]at this
     unfold B69
     rw[C2u]
     simp only[List.length_append,zW,zX];omega
 ·decide
theorem F0t {x:B26}(h:B2g x=true):x.2.2.length≤8:=by
 have h8:=(B8s h).2.2.1
 simp only[B2g,zJ]at h
 have:=D98 h.2 (by omega)
 omega
theorem E4v {s:ByteArray}(h:B3h s=true):s.size≤8:=by
 simp only[B3h,zJ,zG]at h;exact h.2.2
theorem D90 {t:B26}{r:B2m}:(B2f (B6t t r)).size≤2020:=by
 unfold B2f
 split
 ·rename_i hok
  have hv:=(C4e (D3s hok rfl)).2
  have hw:B3h t.1=true:=by
   unfold B3v B6t at hok
   rw[if_neg (show¬(1:Int)=5 by decide)]at hok
   simp only[zJ]at hok;exact hok.1.1
  have h8:=E4v hw
  rw[if_pos (show(B6t t r).1=1 from rfl)]
  have:=C18 (b:=200) ([⟨#[105,110,115,101,114,116]⟩,t.1]++B37 r) 0 E0 (fun x hx=>by
   simp only[zY,List.mem_cons,List.not_mem_nil,or_false]at hx
   rcases hx with(hx|hx)|hx
   ·rw[hx];decide
   ·rw[hx];omega
   ·obtain⟨y,hy,rfl⟩:=List.mem_map.mp hx
    exact D67 y)
  have e:E0.size=0:=rfl
  have hl:=C2y r
  simp only[List.length_append,zW,zX]at this
  unfold B8p B6t
  simp only
  simp only[B6t]at hv
  omega
 ·exact Nat.zero_le _
theorem E87 {c:B4t}(h:B3n c=true):∀w∈B6q c,w.size≤201:=by
 intro w hw
 have hn:B3h c.1=true:=by
  simp only[B3n,zJ]at h;exact h.1.1
 have h8:=E4v hn
 have h4:=E0p (C63 h)
 have hv:=D67 c.2.2.2.2
 have hq:(⟨#[61]⟩++B2i c.2.2.2.2:ByteArray).size≤201:=by rw[ByteArray.size_append];have:ByteArray.size ⟨#[61]⟩=1:=rfl;omega
 simp only[B6q,zY,List.mem_cons,List.not_mem_nil,or_false]at hw
 rcases hw with((hw|hw)|hw)|hw
 ·rw[hw];omega
 ·rw[hw];omega
 ·split at hw
  ·simp only[List.mem_cons,List.not_mem_nil,or_false]at hw;rw[hw];decide
  ·simp at hw
 ·split at hw
  ·simp only[List.mem_cons,List.not_mem_nil,or_false]at hw;rw[hw];exact hq
  ·simp at hw
theorem E2r:∀{cs:B2x},(∀c∈cs,B3n c=true)→(∀w∈B3o cs,w.size≤201)∧(B3o cs).length≤6*cs.length
 |[],_=>⟨fun w hw=>by simp[B3o]at hw,Nat.le_refl _⟩
 |c::cs,h=>by
  obtain⟨h1,h2⟩:=E2r (cs:=cs) fun x hx=>h x (zF _ hx)
  have h3:=C4f c
  refine⟨fun w hw=>?_,by simp only[B3o,List.length_append,zW,zX];omega⟩
  simp only[B3o,zY,List.mem_cons,List.not_mem_nil,or_false]at hw
  rcases hw with((hw|hw)|hw)|hw
  ·rw[hw];decide
  ·exact E87 (h c (zM ..)) w hw
  ·rw[hw];decide
  ·exact h1 w hw
theorem D8e {x:B26}(h:B2g x=true):(B2u (B94 x)).size≤12000:=by
 have hk:=F0t h
 have h8:=(B8s h).2.2.1
 obtain⟨c1,c2⟩:=E2r (B7r h)
 unfold B2u
 rw[if_pos (D7i h),C6i]
 have:=C18 (b:=201) (C17::x.1::(B3o x.2.1++[D3z]++x.2.2)) 0 E0 (fun w hw=>by
  simp only[zY,List.mem_cons,List.not_mem_nil,or_false]at hw
  rcases hw with hw|hw|(hw|hw)|hw
  ·rw[hw];decide
  ·rw[hw];exact Nat.le_trans (E4v (C53 h)) (by decide)
  ·exact c1 w hw
  ·rw[hw];decide
  ·exact Nat.le_trans (E4v (D59 h w hw)) (by decide))
 have e:E0.size=0:=rfl
 refine Nat.le_trans this ?_
 rw[e]
 clear this e
 simp only[List.length_append,zW,zX]
 generalize (B3o x.2.1).length=z at c2⊢
 omega
theorem E57 {data:B9n}(hd:∀k,(data.getD k []).length≤60):∀(l:List B26) (i:Nat) (acc:ByteArray),(∀t∈l,B2g t=true)→(dbT data l i acc).size≤acc.size+150000*l.length
 |[],i,acc,_=>Nat.le_refl _
 |t::r,i,acc,h=>by
  have h1:=D8e (h t (zM ..))
  have h2:=C6q (fun row=>B2f (B6t t row)) 2020 (data.getD i []) (acc++B2u (B94 t)++nl) (fun x _=>D90)
  have h3:=E57 hd r (i+1) (C7h (fun row=>B2f (B6t t row)) (acc++B2u (B94 t)++nl) (data.getD i [])) fun x hx=>h x (zF _ hx)
  have h4:=hd i
  simp only[ByteArray.size_append,C6m]at h2
  simp only[dbT,zW]
  omega
theorem E3r {d:B4z}:(B84 d).size≤1048576:=by
 unfold B84
 split
 ·rename_i h
  obtain⟨hc,hl,hrow⟩:=B4l h
  obtain⟨h6,ht⟩:=B99 hc
  have:=E57 (data:=d.2) (fun k=>by
   by_cases hk:k<d.2.length
   ·rw[getD_at hk];exact(B70 (hrow k (by omega) hk)).2.1
   ·rw[List.getD,List.getElem?_eq_none (by omega)];exact Nat.zero_le _) d.1 0 E0 ht
  have e:E0.size=0:=rfl
  omega
 ·exact Nat.zero_le _
theorem E36 {x:B26}{l:B2s}(h:B3t x l=true)(j:Nat):B3t x (l.take j)=true:=by
 obtain⟨ht,h60,hin⟩:=B70 h
 refine C90 ht (by rw[List.length_take];omega) (fun r hr=>hin r (List.mem_of_mem_take hr)) fun k hk=>?_
 rw[List.length_take]at hk
 rw[List.getElem_take,List.getElem_take]
 exact C3o h k (k+1) (by omega) (by omega)
theorem E9g {x:B26}{l:B2s}(h:B3t x l=true){j:Nat}(hj:j<l.length):C09 x (l.take j) l[j]=(l.take (j+1),(0,())):=by
 obtain⟨ht,h60,hin⟩:=B70 h
 have hmem:∀y∈l.take j,∃i,∃hi:i<j,y=l[i]'(by omega):=fun y hy=>by
  obtain⟨i,hi,rfl⟩:=List.mem_iff_getElem.mp hy
  rw[List.length_take]at hi
  exact⟨i,by omega,by rw[List.getElem_take]⟩
 have hk:¬0≤B7z x (l.take j) (B2n x.2.1 x.2.2 l[j]):=by
  refine(C9b _ _).mpr fun y hy=>zK fun e=>?_
  obtain⟨i,hi,rfl⟩:=hmem y hy
  have:=E5l h (by omega) hj e
  omega
 have hlen:¬(l.take j).length=60:=by rw[List.length_take];omega
 have hall:∀y∈l.take j,C2m x l[j] y=true:=fun y hy=>by
  obtain⟨i,hi,rfl⟩:=hmem y hy
  exact C3o h i j hi hj
 have htw:(l.take j).takeWhile (C2m x l[j])=l.take j:=by
  have:=List.takeWhile_append_of_pos (l₂:=[]) hall
  simpa using this
 have hdw:(l.take j).dropWhile (C2m x l[j])=[]:=by
  have:=List.takeWhile_append_dropWhile (p:=C2m x l[j]) (l:=l.take j)
  rw[htw]at this
  simpa using this
 unfold C09
 rw[if_pos (E36 h j),if_pos (hin _ (zL hj)),if_neg hk,if_neg hlen]
 unfold B85
 rw[htw,hdw,zH1,List.take_append_getElem]
theorem D33 {l:B2o}(h:B68 l=true)(i:Nat):B68 (l.take i)=true:=by
 obtain⟨h6,ht⟩:=B99 h
 exact E52 (by rw[List.length_take];omega) (fun t hm=>ht t (List.mem_of_mem_take hm)) ((E5s h).sublist (List.take_sublist _ _))
def pre (d:B4z)(i j:Nat):B4z:=(d.1.take (i+1),d.2.take i++[(d.2.getD i []).take j])
def D1k (d:B4z)(i:Nat):B4z:=(d.1.take i,d.2.take i)
theorem E7d {d:B4z}(h:B4f d=true)(i:Nat):B4f (D1k d i)=true:=by
 obtain⟨hc,hl,hrow⟩:=B4l h
 refine F0l (D33 hc i) (by simp[hl]) fun k h1 h2=>?_
 rw[List.length_take]at h1
 rw[List.getElem_take,List.getElem_take]
 exact hrow k (by omega) (by omega)
theorem F0y {d:B4z}(h:B4f d=true){i:Nat}(hi:i<d.1.length)(j:Nat):B4f (pre d i j)=true:=by
 obtain⟨hc,hl,hrow⟩:=B4l h
 have hi2:i<d.2.length:=by omega
 refine F0l (D33 hc _) (by simp only[List.length_append,List.length_take,zW,zX];omega) fun k h1 h2=>?_
 rw[List.length_take]at h1
 rw[List.getElem_take]
 by_cases hk:k<i
 ·rw[List.getElem_append_left (by rw[List.length_take];omega),List.getElem_take]
  exact hrow k (by omega) (by omega)
 ·obtain rfl:k=i:=by omega
  rw[List.getElem_append_right (by rw[List.length_take];omega)]
  simp only[List.length_take,getD_at hi2]
  simp only[show k - min k d.2.length=0 by omega,List.getElem_cons_zero]
  exact E36 (hrow k hi hi2) j
theorem F0c {d:B4z}(h:C1m 1048576 d)(i:Nat):C1m 1048576 (D1k d i):=
 ⟨⟨by have:=h.1.1;simp only[D1k,List.length_take];omega,fun t ht=>h.1.2 t (List.mem_of_mem_take ht)⟩,⟨by have:=h.2.1;simp only[D1k,List.length_take];omega,fun t ht=>h.2.2 t (List.mem_of_mem_take ht)⟩⟩
theorem F0z {d:B4z}(h:C1m 1048576 d){i:Nat}(hi:i<d.2.length)(j:Nat):C1m 1048576 (pre d i j):=by
 refine⟨⟨by have:=h.1.1;simp only[pre,List.length_take];omega,fun t ht=>h.1.2 t (List.mem_of_mem_take ht)⟩,⟨by have:=h.2.1;simp only[pre,List.length_append,List.length_take,zW,zX];omega,fun l hl=>?_⟩⟩
 rcases zY.mp hl with hl|hl
 ·exact h.2.2 l (List.mem_of_mem_take hl)
 ·rw[zF1.mp hl,getD_at hi]
  have:=h.2.2 _ (zL hi)
  exact⟨by have:=this.1;rw[List.length_take];omega,fun r hr=>this.2 r (List.mem_of_mem_take hr)⟩
theorem F0h {d:B4z}(h:B4f d=true){i:Nat}(hi:i<d.1.length):tAt (d.1.take (i+1)) d.1[i].1=(i:Int):=by
 obtain⟨hc,_,_⟩:=B4l h
 have:=D5h (D33 hc (i+1)) (k:=i) (by rw[List.length_take];omega)
 rwa[List.getElem_take]at this
theorem E98 {d:B4z}(h:B4f d=true){i:Nat}(hi:i<d.1.length){j:Nat}(hi2:i<d.2.length)(hj:j<d.2[i].length):D1b (pre d i j) (B6t d.1[i] d.2[i][j])=(pre d i (j+1),(0,())):=by
 obtain⟨hc,hl,hrow⟩:=B4l h
 have e:=F0h h hi
 have hi1:i<(d.1.take (i+1)).length:=by rw[List.length_take];omega
 have hi3:i<(d.2.take i++[d.2[i].take j]).length:=by simp only[List.length_append,List.length_take,zW,zX];omega
 unfold D1b pre B6t
 simp only[e,getD_at hi2]
 rw[if_neg (by omega),if_neg (by decide),zE,getD_at hi1,getD_at hi3]
 have e1:(d.1.take (i+1))[i]=d.1[i]:=List.getElem_take
 have e2:(d.2.take i++[d.2[i].take j])[i]=d.2[i].take j:=by
  rw[List.getElem_append_right (by rw[List.length_take];omega)]
  simp only[List.length_take,show i - min i d.2.length=0 by omega,List.getElem_cons_zero]
 have e3:C4k d.1[i] (d.2[i].take j) (1,(d.1[i].1,([],(d.2[i][j],B4o))))=(d.2[i].take (j+1),(0,())):=by
  unfold C4k
  rw[if_pos rfl]
  exact E9g (hrow i hi hi2) hj
 rw[e1,e2,e3,if_pos rfl]
 congr 2
 rw[List.set_append_right _ _ (by rw[List.length_take];omega)]
 simp only[List.length_take,show i - min i d.2.length=0 by omega,List.set_cons_zero]
theorem D92 (t:B26):∀l:B2o,(∀y∈l,B98 y.1 t.1=true)→B9w t l=l++[t]
 |[],_=>rfl
 |y::l,h=>by
  have:=C8w (h y (zM ..))
  simp only[B9w,this]
  rw[if_neg (by simp),D92 t l fun z hz=>h z (zF _ hz)];rfl
theorem E89 {d:B4z}(h:B4f d=true){i:Nat}(hi:i<d.1.length):D1b (D1k d i) (D37 d.1[i])=(pre d i 0,(0,())):=by
 obtain⟨hc,hl,hrow⟩:=B4l h
 obtain⟨h6,ht⟩:=B99 hc
 have ok:=E7d h i
 have hless:∀y∈d.1.take i,B98 y.1 d.1[i].1=true:=fun y hy=>by
  obtain⟨k,hk,rfl⟩:=List.mem_iff_getElem.mp hy
  rw[List.length_take]at hk
  rw[List.getElem_take]
  exact C2n hc k i (by omega) hi
 have hno:¬0≤tAt (d.1.take i) d.1[i].1:=fun hp=>by
  obtain⟨y,hy,e⟩:=C39.mp hp
  have:=hless y hy
  rw[e,C1l]at this;cases this
 have hcode:C3b (d.1.take i) (B94 d.1[i])=0:=by
  unfold C3b B94
  rw[if_pos rfl,if_neg hno,if_neg]
  rw[List.length_take];omega
 have happ:B4p (d.1.take i) (B94 d.1[i])=(d.1.take i++[d.1[i]],(0,())):=by
  unfold B4p
  rw[if_pos ⟨D33 hc i,D7i (ht _ (zL hi))⟩,if_pos hcode]
  unfold C1w
  rw[if_pos (show(B94 d.1[i]).1=1 from rfl)]
  exact congrArg (fun z=>(z,((0:Int),()))) (D92 d.1[i] _ hless)
 have hm:=E5v ok (D37 d.1[i]) (show tAt (D1k d i).1 (D37 d.1[i]).2.1<0 from by have:¬0≤tAt (D1k d i).1 (D37 d.1[i]).2.1:=hno;omega)
 unfold D1b
 rw[if_neg (by rintro⟨_,q⟩;rcases q with q|q<;>exact q rfl),if_pos (show(D37 d.1[i]).1=5 from rfl)]
 unfold C3a
 have happ':B4p (D1k d i).1 (D37 d.1[i]).2.2.2.2=(d.1.take i++[d.1[i]],(0,())):=happ
 rw[happ',if_pos rfl]
 have hrf:C0f (D1k d i) (D37 d.1[i]) d.1[i]=[]:=by
  unfold C0f
  exact if_neg hno
 simp only[List.map_append,List.map_cons,List.map_nil,hrf]
 have hm':(d.1.take i).map (C0f (D1k d i) (D37 d.1[i]))=d.2.take i:=hm
 rw[hm']
 unfold pre
 rw[List.take_append_getElem]
 simp
noncomputable def Steps:List ByteArray→B4z→B4z→Prop
 |[],q,d=>q=d
 |w::t,q,d=>∃s q',w.size≤1048576∧C1i w=(s,(true,()))∧B3v s=true∧C48 1048576 s∧C1m 1048576 q∧B4f q=true∧D1b q s=(q',(0,()))∧Steps t q' d
theorem E9y {x:B26}(h:B2g x=true):B3v (D37 x)=true:=by
 unfold B3v
 rw[if_pos (show(D37 x).1=5 from rfl)]
 have:B49 (D37 x).2.2.2.2=true:=D7i h
 simp only[this,zG1,zJ,zG]
 exact⟨⟨rfl,rfl⟩,rfl⟩
theorem E9o {d:B4z}(ok:B4f d=true)(sd:C1m 1048576 d):Steps (B9l d.2 d.1 0) D3h d:=by
 obtain⟨hc,hl,hrow⟩:=B4l ok
 obtain⟨_,ht⟩:=B99 hc
 have tabs:∀(t:B2o) (i:Nat),d.1.drop i=t→i≤d.1.length→Steps (B9l d.2 t i) (D1k d i) d:=by
  intro t
  induction t with
  |nil=>
   intro i hd hi
   have:i=d.1.length:=by
    rcases zE1 i d.1.length with h'|h'
    ·rw[zC1 h']at hd;cases hd
    ·omega
   subst this
   show D1k d d.1.length=d
   unfold D1k
   rw[List.take_length,←hl,List.take_length]
  |cons x t ih=>
   intro i hd hi
   obtain⟨g2,g3,g4⟩:=B36 hd x
   rw[getD_at g2]at g3
   subst g3
   have hi2:i<d.2.length:=by omega
   have hx:=ht _ (zL g2)
   have hro:=hrow i g2 hi2
   have hz:=Nat.le_trans (D8e hx) (show 12000≤1048576 by decide)
   have rows:∀(r:B2s) (j:Nat),d.2[i].drop j=r→j≤d.2[i].length→Steps (r.map (fun row=>B2f (B6t d.1[i] row))++B9l d.2 t (i+1)) (pre d i j) d:=by
    intro r
    induction r with
    |nil=>
     intro j hd hj
     have:j=d.2[i].length:=by
      rcases zE1 j d.2[i].length with h'|h'
      ·rw[zC1 h']at hd;cases hd
      ·omega
     subst this
     have e:pre d i d.2[i].length=D1k d (i+1):=by
      unfold pre D1k
      rw[getD_at hi2,List.take_length,List.take_append_getElem]
     rw[e]
     exact ih (i+1) g4 (by omega)
    |cons row r ih2=>
     intro j hd hj
     obtain⟨k2,k3,k4⟩:=B36 hd row
     rw[getD_at k2]at k3
     subst k3
     have hin:=(B70 hro).2.2 _ (zL k2)
     have hs:=E7a hx hin
     have hz:=Nat.le_trans (D90 (t:=d.1[i]) (r:=d.2[i][j])) (show 2020≤1048576 by decide)
     exact⟨B6t d.1[i] d.2[i][j],pre d i (j+1),hz,E5u hs hz,hs,E3z (sd.1.2 _ (zL g2)) ((sd.2.2 _ (zL hi2)).2 _ (zL k2)),F0z sd hi2 j,F0y ok g2 j,E98 ok g2 hi2 k2,ih2 (j+1) k4 (by omega)⟩
   have hcs:C48 1048576 (D37 d.1[i]):=⟨(sd.1.2 _ (zL g2)).1,E41,E41,D36 (sd.1.2 _ (zL g2))⟩
   refine⟨D37 d.1[i],pre d i 0,hz,E5t hx hz,E9y hx,hcs,F0c sd i,E7d ok i,E89 ok g2,?_⟩
   rw[getD_at hi2]
   exact rows d.2[i] 0 rfl (Nat.zero_le _)
 exact tabs d.1 0 rfl (Nat.zero_le _)
theorem D53:EV fun n=>∀d:B4z,C1m 1048576 d→B4f d=true→C59 n (B84 d)=some (d,(true,())):=(D61.and (D54.and (E3w.and (C8q.and (EV.gt 1048580))))).up fun n ⟨h1,h2,h3,h4,hn⟩ d sd ok=>by
 obtain⟨hL,h366,_⟩:=E8e ok
 have hst:=E9o ok sd
 have hz:(B84 d).size≤1048576:=E3r
 generalize B9l d.2 d.1 0=L at hL h366 hst
 have loop:∀(t:List ByteArray) (j k:Nat) (q:B4z),L.drop k=t→k≤L.length→t.length<j→Steps t q d→
   B8a n j (B84 d) 0 L.length (L.length:Int) (k:Int) [] [] q.1 q.2 (L++[E0])=some (d,(true,())):=by
  intro t
  induction t with
  |nil=>
   intro j k q hdr hkl hj hq
   obtain⟨j,rfl⟩:∃i,j=i+1:=⟨j - 1,by simp at hj;omega⟩
   have:k=L.length:=by
    rcases zE1 k L.length with h'|h'
    ·rw[zC1 h']at hdr;cases hdr
    ·omega
   subst this
   have hq:q=d:=hq
   subst hq
   simp only[B8a,B27,zP,zH,zA,h4 q sd,zC,B3i,zI,zT]
  |cons w t ih=>
   intro j k q hdr hkl hj ⟨s,q',w1,w2,w3,w4,w5,w6,w7,w8⟩
   obtain⟨j,rfl⟩:∃i,j=i+1:=⟨j - 1,by simp at hj;omega⟩
   obtain⟨g2,g3,g4⟩:=B36 hdr E0
   have g3':(L++[E0]).getD (0+k) E0=w:=by
    rw[zS,List.getD,List.getElem?_append_left g2];exact g3
   have e3:=h3 q s w5 w4 w6 w3
   rw[w7]at e3
   simp only[B8a,B27,zD g2,B25 g2,zE,show(⟨#[]⟩:ByteArray)=E0 from rfl,g3',zB,B28 g2 (by omega),h2 w w1,w2,zC,zT,zA,e3,B6z,zI]
   exact ih j (k+1) q' g4 (by omega) (by simp at hj;omega) w8
 have hlast:(L++[E0]).getD L.length E0=E0:=by simp[List.getD]
 have w1:IntKind.wrap .i64 (((L++[E0]).length:Int) - (1:Int))=(L.length:Int):=by
  simp only[List.length_append,zW,zX]
  rw[wrap64]<;>omega
 have r1:inR (L.length:Int) (L++[E0]).length=true:=B25 (by simp)
 have d1:decide ((367:Int)<((L++[E0]).length:Int))=false:=zK (by simp only[List.length_append,zW,zX];omega)
 have d2:decide (0≤((0:Nat):Int)∧((0:Nat):Int)≤(L.length:Int)∧(L.length:Int)≤((L++[E0]).length:Int))=true:=zD (by simp only[List.length_append,zW,zX];omega)
 simp only[C59,h1 _ 10 hz,hL,zC,w1,r1,zB,zE,show(⟨#[]⟩:ByteArray)=E0 from rfl,hlast,B3i,zI,zT,zA,d1,d2,Nat.sub_zero]
 exact loop L n 0 D3h rfl (by omega) (by omega) hst
theorem F1c:EV fun n=>∀(x0:E3c),E5x 140737488355328 x0→D5a n x0=some true:=(E1h.and (C8q.and (D9d.and (D53.and (D3q.and (D8r.and D3g)))))).up fun n ⟨hD,hI,hS,hT,hO,hE,hF⟩ x0 _=>by
 rw[D5a]
 by_cases hb:x0.length≤1048576
 ·have e0:decide ((1048576:Int)<(x0.length:Int))=false:=zK (by omega)
  obtain⟨d,e,sd⟩:=hD x0 hb
  simp only[e0,zA,e,zC,hI d sd,hS d sd,hO d sd,B3i,zI,zT]
  cases ok:B4f d
  ·have et:B84 d=E0:=by unfold B84;rw[if_neg (by rw[ok];simp)]
   have e1:B84 D3h=E0:=by decide
   have e2:=hT D3h ⟨⟨Nat.zero_le _,fun x hx=>by cases hx⟩,⟨Nat.zero_le _,fun x hx=>by cases hx⟩⟩ (by decide)
   rw[e1]at e2
   rw[et,e2]
   rfl
  ·have h0:D0w d d=[]:=(E9c ok ok).mpr rfl
   have h1:D7h d d=true:=by unfold D7h;rw[ok];simp
   simp only[hT d sd ok,zC,zT,zA,zB,hE d d sd sd,hF d d sd sd,h0,h1]
   rfl
 ·have e0:decide ((1048576:Int)<(x0.length:Int))=true:=zD (by omega)
  simp only[e0,zB]

end Go.Proofs.YtalmhjlcjcnidaaGreat.Ev

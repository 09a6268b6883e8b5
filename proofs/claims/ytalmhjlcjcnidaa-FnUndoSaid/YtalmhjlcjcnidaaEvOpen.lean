/- A law's arguments as data: the reading of plain types, whatever their shape. -/
import Derived.Test.YtalmhjlcjcnidaaEvMain
import Derived.SizedLaws
import Derived.ChangeArms
set_option linter.all false
namespace Go.Proofs.Ytalmhjlcjcnidaa.Ev
open Go
def T0 (P:Program)(kd:TypeId→Option Kd):Nat→List Field→Option Kd
 |_,[]=>none
 |o,[fl]=>(kd fl.type).bind fun f=>bif Nat.beq fl.offset o&&Nat.beq (P.cellsOf fl.type) f.size then some f else none
 |o,fl::rest=>(kd fl.type).bind fun a=>bif Nat.beq fl.offset o&&Nat.beq (P.cellsOf fl.type) a.size then(T0 P kd (o+a.size) rest).bind fun b=>some (.pair a b)else none
def A3a (P:Program)(B:Kd→Nat):Nat→TypeId→Option Kd
 |0,_=>none
 |n+1,t=>match P.underlying t with
  |some (.int k)=>some (.int k)
  |some .bool=>some .bool
  |some .string=>some .str
  |some (.slice e)=>(A3a P B n e).bind fun f=>bif Nat.beq (P.cellsOf e) f.size&&Nat.beq (P.bytesOf e) (B f)then some (.sl f)else none
  |some (.struct fs)=>(T0 P (A3a P B n) 0 fs.toList).bind fun f=>bif Nat.beq (P.cellsOf t) f.size then some f else none
  |_=>none
def Wf (B:Kd→Nat):(f:Kd)→f.T→Prop
 | .int k,n=>k.min≤n∧n≤k.max
 | .bool,_=>True
 | .str,s=>s.size≤reachBytes
 | .sl g,xs=>(xs:List g.T).length*B g≤reachBytes∧∀x∈(xs:List g.T),Wf B g x
 | .pair a b,p=>Wf B a p.1∧Wf B b p.2
section
variable {H:Type} {enc:TypeId×Value→H} {P:Program} {B:Kd→Nat} {w:World} {base:Nat} {spare:Nat→Bool} {held:Bool}
theorem A2b {α:Type}{p:Nat→α→Prop}:∀n,(∀i,i<n→∃x,p i x)→∃xs:List α,xs.length=n∧∀i x,xs[i]?=some x→p i x
 |0,_=>⟨[],rfl,by simp⟩
 |n+1,h=>by
  obtain⟨xs,h1,h2⟩:=A2b n fun i hi=>h i (by omega)
  obtain⟨x,hx⟩:=h n (by omega)
  refine⟨xs++[x],by simp[h1],fun i y hy=>?_⟩
  rw[List.getElem?_append]at hy
  split at hy
  ·exact h2 i y hy
  ·rename_i hi
   have:i=n:=by
    rcases zE1 i (n+1)with h'|h'
    ·omega
    ·rw[List.getElem?_eq_none (by simp;omega)]at hy;cases hy
   subst this
   rw[h1,Nat.sub_self]at hy
   simp at hy;subst hy;exact hx
theorem X2:∀{e:TypeId} {ds:List (DataW H)} {d:DataW H},d∈ds→∀n∈d.weights P e,n∈DataW.weightsAll P e ds
 |e,[],d,h,n,hn=>by simp at h
 |e,d0::ds,d,h,n,hn=>by
  simp only[DataW.weightsAll,zY]
  rcases List.mem_cons.mp h with rfl|h
  ·exact .inl hn
  ·exact .inr (X2 h n hn)
theorem A2c {m n:Nat}{cs:List Value}
  (ih:∀{t:TypeId} {f:Kd} {cs:List Value} {d:DataW H} {ps:List MemPlace},A3a P B n t=some f→DataW.trod enc P w base spare held m t cs=some (d,ps)→(∀k∈d.weights P t,k≤reachBytes)→
   ∃x,A2 false w.heap f x cs (fun q=>q<w.heap.size)∧Wf B f x):
  ∀{fs:List Field} {o:Nat} {f:Kd},T0 P (A3a P B n) o fs=some f→(∀(i:Nat) (fl:Field),fs[i]?=some fl→∃d ps,DataW.trod enc P w base spare held m fl.type ((cs.drop fl.offset).take (P.cellsOf fl.type))=some (d,ps)∧∀k∈d.weights P fl.type,k≤reachBytes)→
   ∃x,A2 false w.heap f x ((cs.drop o).take f.size) (fun q=>q<w.heap.size)∧Wf B f x
 |[],o,f,h,_=>by simp[T0]at h
 |[fl],o,f,h,hf=>by
  simp only[T0]at h
  obtain⟨a,ha,h⟩:=oB h
  cases hb:Nat.beq fl.offset o&&Nat.beq (P.cellsOf fl.type) a.size<;>simp only[hb,zB,zA]at h
  ·cases h
  obtain rfl:=oI h
  simp only[zJ]at hb
  obtain⟨d,ps,h1,h2⟩:=hf 0 fl rfl
  rw[zN hb.1,zN hb.2]at h1
  exact ih ha h1 h2
 |fl::fl'::rest,o,f,h,hf=>by
  simp only[T0]at h
  obtain⟨a,ha,h⟩:=oB h
  cases hb:Nat.beq fl.offset o&&Nat.beq (P.cellsOf fl.type) a.size<;>simp only[hb,zB,zA]at h
  ·cases h
  obtain⟨b,hb',h⟩:=oB h
  obtain rfl:=oI h
  simp only[zJ]at hb
  obtain⟨d,ps,h1,h2⟩:=hf 0 fl rfl
  rw[zN hb.1,zN hb.2]at h1
  obtain⟨x,k1,k2⟩:=ih ha h1 h2
  obtain⟨y,k3,k4⟩:=A2c (cs:=cs) ih hb' fun i fl0 hi=>hf (i+1) fl0 (by simpa using hi)
  refine⟨(x,y),?_,k2,k4⟩
  simp only[A2]
  refine⟨_,_,fun _=>true,?_,k1.mono fun q hq=>⟨hq,by simp⟩,k3.mono fun q hq=>⟨hq,by simp⟩⟩
  simp only[Kd.size]
  rw[List.take_add,List.drop_drop]
theorem A0q:∀{n m:Nat} {t:TypeId} {f:Kd} {cs:List Value} {d:DataW H} {ps:List MemPlace},A3a P B n t=some f→DataW.trod enc P w base spare held m t cs=some (d,ps)→(∀k∈d.weights P t,k≤reachBytes)→
  ∃x,A2 false w.heap f x cs (fun q=>q<w.heap.size)∧Wf B f x
 |0,m,t,f,cs,d,ps,h,_,_=>by simp[A3a]at h
 |n+1,m,t,f,cs,d,ps,h,hr,hw=>by
  simp only[A3a]at h
  split at h
  ·rename_i k hu
   obtain rfl:=oI h
   obtain⟨z,rfl,_,h1⟩:=DataW.trod_int hu hr
   simp only[Lit.wf,zJ,zG]at h1
   exact⟨z,rfl,h1⟩
  ·rename_i hu
   obtain rfl:=oI h
   obtain⟨z,rfl,_⟩:=DataW.trod_bool hu hr
   exact⟨z,rfl,trivial⟩
  ·rename_i hu
   obtain rfl:=oI h
   obtain⟨z,rfl,hx,_⟩:=DataW.trod_string hu hr
   obtain⟨rfl,_⟩:=zQ hx
   exact⟨z,rfl,by have:=hw z.data.toList.length (by simp[DataW.weights]);simpa[Wf]using this⟩
  ·rename_i e hu
   obtain⟨g,hg,h⟩:=oB h
   cases hb:Nat.beq (P.cellsOf e) g.size&&Nat.beq (P.bytesOf e) (B g)<;>simp only[hb,zB,zA]at h
   ·cases h
   obtain rfl:=oI h
   simp only[zJ]at hb
   have hc:=zN hb.1
   have hB:=zN hb.2
   rcases DataW.trod_slice hu hr with⟨rfl,_⟩|⟨a,len,cap,elems,rest,m',_,rfl,hx,_,hl,_,hlen,hel,_,_⟩
   ·exact⟨[],.inl ⟨rfl,none,0,rfl,by simp⟩,by simp[Wf]⟩
   ·obtain⟨rfl,_⟩:=zQ hx
    have hbound:len*B g≤reachBytes:=by
     have h1:=hw ((elems.map (·.1)).length+(rest.map (·.1)).length|>.mul (P.bytesOf e)) (by simp[DataW.weights,hu])
     have h2:len*B g≤((elems.map (·.1)).length+(rest.map (·.1)).length)*P.bytesOf e:=by
      rw[hB,List.length_map,hlen];exact Nat.mul_le_mul_right _ (by omega)
     exact Nat.le_trans h2 h1
    rcases Nat.eq_zero_or_pos len with rfl|hpos
    ·exact⟨[],.inl ⟨rfl,some a,cap,rfl,by simp⟩,by simp[Wf]⟩
    have hcell:∀i,i<len→∃cs',w.cells? base (a.add (i*g.size)) g.size=some cs'∧∃y,elems[i]?=some y∧DataW.trod enc P w base spare held m' e cs'=some y:=by
     intro i hi
     have:=hel i hi
     rw[hc,List.getElem?_eq_getElem (by omega)]at this
     obtain⟨cs',h1,h2⟩:=oB this
     exact⟨cs',h1,_,List.getElem?_eq_getElem (by omega),h2⟩
    obtain⟨cs0,h0,_⟩:=hcell 0 hpos
    obtain⟨_,_,h00⟩:=World.cells?_some h0
    have hsz:=g.size_pos
    have hfirst:=h00 0 hsz
    rw[Nat.zero_mul]at hfirst
    have hlen0:=(World.cells?_some h0).2.1
    obtain⟨b,off,spot⟩:=a
    have hget:w.cell? ⟨b,off,spot⟩=cs0[0]?:=by simpa[Addr.add]using hfirst
    rw[List.getElem?_eq_getElem (by omega)]at hget
    unfold World.cell? at hget
    split at hget
    ·rename_i arr e' fr hb2
     have hspot:spot=none:=by
      cases spot with
      |none=>rfl
      |some s=>simp at hget
     subst hspot
     have hbs:b<w.heap.size:=by
      rcases zE1 b w.heap.size with h|h
      ·exact h
      ·rw[Array.getElem?_eq_none h]at hb2;cases hb2
     have hseg:∀i,i<len→∀cs',w.cells? base ((⟨b,off,none⟩:Addr).add (i*g.size)) g.size=some cs'→cs'=seg arr (off+i*g.size) g.size:=by
      intro i hi cs' h1
      obtain⟨_,h2,h3⟩:=World.cells?_some h1
      apply List.ext_getElem?
      intro j
      by_cases hj:j<g.size
      ·rw[←h3 j hj,C5 hj,H4,H4]
       simp[World.cell?,hb2]
      ·rw[T4 (by omega),List.getElem?_eq_none (by omega)]
     obtain⟨xs,hxl,hxs⟩:=A2b (p:=fun i (x:g.T)=>A2 false w.heap g x (seg arr (off+i*g.size) g.size) (fun q=>q<w.heap.size)∧Wf B g x) len fun i hi=>by
      obtain⟨cs',h1,⟨d',ps'⟩,h2,h3⟩:=hcell i hi
      rw[hseg i hi cs' h1]at h3
      refine A0q hg h3 fun k hk=>hw k ?_
      simp only[DataW.weights,hu,List.mem_cons,zY]
      exact .inr (.inl (X2 (List.mem_map.mpr ⟨(d',ps'),List.mem_of_getElem? h2,rfl⟩) k hk))
     refine⟨xs,.inr ⟨b,off,cap,arr,e',fr,fun _=>0,by rw[hxl],by rw[hxl];exact hl,hbs,hb2,by simp,fun i x hx=>((hxs i x hx).1).mono fun q hq=>⟨hq,by simp⟩⟩,by rw[hxl];exact hbound,fun x hx=>?_⟩
     obtain⟨i,hi⟩:=List.getElem?_of_mem hx
     exact(hxs i x hi).2
    ·cases hget
  ·rename_i fs hu
   obtain⟨g,hg,h⟩:=oB h
   cases hb:Nat.beq (P.cellsOf t) g.size<;>simp only[hb,zB,zA]at h
   ·cases h
   obtain rfl:=oI h
   obtain⟨xs,m',_,hx,hcl,hxl,hfl⟩:=DataW.trod_struct hu hr
   obtain⟨rfl,_⟩:=zQ hx
   have hgs:=zN hb
   obtain⟨x,h1,h2⟩:=A2c (cs:=cs) (m:=m') (fun{t f cs d ps} a b c=>A0q a b c) hg fun i fl hi=>by
    have hi':fs[i]?=some fl:=by simpa using hi
    have:=hfl i fl hi'
    have hlt:i<xs.length:=by rw[hxl];exact(Array.getElem?_eq_some_iff.mp hi').1
    rw[List.getElem?_eq_getElem hlt]at this
    refine⟨xs[i].1,xs[i].2,this,fun k hk=>hw k ?_⟩
    simp only[DataW.weights,hu]
    exact DataW.weights_mem_each (j:=i) (t:=fl.type) (d:=xs[i].1) (by simp[hi]) (by simp[hlt]) k hk
   refine⟨x,?_,h2⟩
   rwa[List.drop_zero,←hgs,←hcl,List.take_length]at h1
  ·cases h
end
end Go.Proofs.Ytalmhjlcjcnidaa.Ev

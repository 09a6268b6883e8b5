/- Words for the plain laws: what holds from some fuel on; steps of loops over lists; texts as lists of bytes. -/
import Derived.Test.YtalmhjlcjcnidaaGreatEvFnFnExec
import Derived.Test.YtalmhjlcjcnidaaGreatEvLaw
set_option linter.all false
namespace Go.Proofs.YtalmhjlcjcnidaaGreat.Ev
open Go
set_option linter.unusedVariables false
def EV (p:Nat→Prop):Prop:=∃N,∀n,N≤n→p n
theorem EV.and {p q:Nat→Prop}(h1:EV p)(h2:EV q):EV fun n=>p n∧q n:=by
 obtain⟨N,h1⟩:=h1;obtain⟨M,h2⟩:=h2
 exact⟨max N M,fun n hn=>⟨h1 n (by omega),h2 n (by omega)⟩⟩
theorem EV.mono {p q:Nat→Prop}(h:EV p)(hpq:∀n,p n→q n):EV q:=by
 obtain⟨N,h⟩:=h;exact⟨N,fun n hn=>hpq n (h n hn)⟩
theorem EV.gt (k:Nat):EV fun n=>k<n:=⟨k+1,fun n hn=>hn⟩
theorem EV.true:EV fun _=>True:=⟨0,fun _ _=>trivial⟩
theorem EV.up {p q:Nat→Prop}(h:EV p)(hpq:∀n,p n→q (n+1)):EV q:=by
 obtain⟨N,h⟩:=h
 refine⟨N+1,fun n hn=>?_⟩
 obtain⟨m,rfl⟩:∃m,n=m+1:=⟨n - 1,by omega⟩
 exact hpq m (h m (by omega))
theorem EV.all {α:Type}{p:α→Nat→Prop}:∀{l:List α},(∀x∈l,EV (p x))→EV fun n=>∀x∈l,p x n
 |[],_=>⟨0,by simp⟩
 |a::l,h=>((h a (zM ..)).and (EV.all fun x hx=>h x (zF _ hx))).mono fun n hn x hx=>by
   rcases List.mem_cons.mp hx with rfl|hx
   ·exact hn.1
   ·exact hn.2 x hx
theorem wrap64 {x:Int}(h1: -9223372036854775808≤x)(h2:x≤9223372036854775807):IntKind.wrap .i64 x=x:=by
 have e:IntKind.wrap .i64 x=(if x % 18446744073709551616≥9223372036854775808 then x % 18446744073709551616 - 18446744073709551616 else x % 18446744073709551616):=by
  simp[IntKind.wrap,IntKind.bits,IntKind.signed]
 rw[e];split<;>omega
theorem E20 {k n:Nat}:inR (k:Int) n=decide (k<n):=by simp[inR]
theorem D1 {k n:Nat}(h:k<n):inR (k:Int) n=true:=by simp[E20,h]
theorem D3 {k n:Nat}(h:k<n)(hn:n<4611686018427387904):IntKind.wrap .i64 ((k:Int)+(1:Int))=((k+1:Nat):Int):=by
 rw[wrap64]<;>omega
theorem D2 {k n:Nat}:(decide ((k:Int)<(n:Int)))=decide (k<n):=by simp
theorem getD_at {α:Type}{l:List α}{k:Nat}{z:α}(h:k<l.length):l.getD k z=l[k]:=by simp[List.getD,h]
theorem B2z (a b:Int):(a==b)=decide (a=b):=by by_cases h:a=b<;>simp[h]
theorem B4a (a b:Int):(a !=b)= !decide (a=b):=by by_cases h:a=b<;>simp[bne,h]
theorem C4g (s:ByteArray):s.data.toList.length=s.size:=by rw[zI1];rfl
theorem toList_data (s:ByteArray):s.toList=s.data.toList:=by
 have h:∀(n i:Nat) (r:List UInt8),s.size - i=n→ByteArray.toList.loop s i r=r.reverse++s.data.toList.drop i:=by
  intro n
  induction n with
  |zero=>
   intro i r h
   unfold ByteArray.toList.loop
   rw[if_neg (by omega)]
   have:s.data.toList.length≤i:=by rw[C4g];omega
   simp[List.drop_eq_nil_of_le this]
  |succ n ih=>
   intro i r h
   unfold ByteArray.toList.loop
   rw[if_pos (by omega),ih (i+1) _ (by omega)]
   have hi:i<s.data.toList.length:=by rw[C4g];omega
   rw[zC1 hi]
   have:s.get! i=s.data.toList[i]:=by
    have hi':i<s.data.size:=by simpa using hi
    rw[ByteArray.get!,Array.getElem!_eq_getD]
    simp only[Array.getD,hi',dite_true]
    rfl
   simp[this]
 simpa[ByteArray.toList]using h s.size 0 [] (by omega)
theorem D9k {a b:ByteArray}(h:a.data.toList=b.data.toList):a=b:=by
 obtain⟨⟨a⟩⟩:=a;obtain⟨⟨b⟩⟩:=b;simpa using h
theorem B41 (a b:ByteArray):(a.toList==b.toList)=decide (a=b):=by
 rw[toList_data,toList_data]
 by_cases h:a=b
 ·subst h;simp
 ·have:¬a.data.toList=b.data.toList:=fun e=>h (D9k e)
  rw[zK h];exact beq_eq_false_iff_ne.mpr this
theorem D5d (a b:ByteArray):(a.toList=b.toList)=(a=b):=by
 rw[toList_data,toList_data]
 exact propext ⟨D9k,fun h=>by rw[h]⟩
theorem B3d {α:Type}{l:List α}{k:Nat}{x:α}{t:List α}(h:l.drop k=x::t)(z:α):k<l.length∧l.getD k z=x∧l.drop (k+1)=t:=by
 have hk:k<l.length:=by
  rcases zE1 k l.length with h'|h'
  ·exact h'
  ·rw[List.drop_eq_nil_of_le h']at h;cases h
 rw[zC1 hk]at h
 obtain⟨h1,h2⟩:=List.cons.inj h
 exact⟨hk,by simp[List.getD,hk,h1],h2⟩
theorem along {α S T:Type}(l:List α)(L:Nat→Nat→S→T)(G:List α→S→T)(hnil:∀j s,L (j+1) l.length s=G [] s)
  (hcons:∀j k x t s,l.drop k=x::t→k<l.length→(∀s,L j (k+1) s=G t s)→L (j+1) k s=G (x::t) s):
  ∀(t:List α) (j k:Nat) (s:S),l.drop k=t→k≤l.length→t.length<j→L j k s=G t s
 |[],j+1,k,s,hd,hk,_=>by
  have:k=l.length:=by
   rcases zE1 k l.length with h'|h'
   ·rw[zC1 h']at hd;cases hd
   ·omega
  subst this;exact hnil j s
 |x::t,j+1,k,s,hd,hk,hj=>by
  have h:=B3d hd x
  exact hcons j k x t s hd h.1 fun s=>along l L G hnil hcons t j (k+1) s h.2.2 (by omega) (by simp at hj;omega)
theorem E2c {α S T:Type}(l:List α)(L:Nat→Nat→S→T)(G:List α→S→T){j:Nat}(hj:l.length<j)(s:S)(hnil:∀j s,L (j+1) l.length s=G [] s)
  (hcons:∀j k x t s,l.drop k=x::t→k<l.length→(∀s,L j (k+1) s=G t s)→L (j+1) k s=G (x::t) s):L j 0 s=G l s:=
 along l L G hnil hcons l j 0 s rfl (by omega) hj
theorem E2u {s:ByteArray}{k:Nat}(h:k<s.size):bt s (k:Int)=((s.data.toList[k]'(by rw[C4g];exact h)).toNat:Int):=by
 simp only[bt,zE,h,dite_true];rfl
theorem E1u {s:ByteArray}{k:Nat}{x:UInt8}{t:List UInt8}(h:s.data.toList.drop k=x::t):k<s.size∧bt s (k:Int)=(x.toNat:Int):=by
 obtain⟨h1,h2,_⟩:=B3d h x
 have h3:k<s.size:=by rw[←C4g];exact h1
 refine⟨h3,?_⟩
 rw[E2u h3]
 rw[getD_at h1]at h2;rw[h2]
theorem E0n {S T:Type}(s:ByteArray)(L:Nat→Nat→S→T)(G:List UInt8→S→T)(hnil:∀j st,L (j+1) s.size st=G [] st)
  (hcons:∀j k x t st,s.data.toList.drop k=x::t→k<s.size→bt s (k:Int)=(x.toNat:Int)→(∀st,L j (k+1) st=G t st)→L (j+1) k st=G (x::t) st) {j:Nat} (hj:s.size<j) (st:S):L j 0 st=G s.data.toList st:=by
 refine E2c s.data.toList L G (by rw[C4g];exact hj) st (fun j st=>by rw[C4g];exact hnil j st) fun j k x t st hd hk ih=>?_
 obtain⟨h1,h2⟩:=E1u hd
 exact hcons j k x t st hd h1 h2 ih
theorem D3b {α:Type} [DecidableEq α](x y:α)(R:Option Bool):(bif !decide (x=y)then some false else R)=if x=y then R else some false:=by
 by_cases h:x=y<;>simp[h]
theorem D0m {α:Type} [DecidableEq α](l m:List α)(hlm:l.length=m.length)(L:Nat→Nat→Option Bool)(hexit:∀j,L (j+1) l.length=some true)
  (hstep:∀j k (h:k<l.length) (h':k<m.length),L (j+1) k=if l[k]=m[k]then L j (k+1)else some false):
  ∀(t:List α) (j k:Nat),l.drop k=t→k≤l.length→t.length<j→L j k=some (decide (t=m.drop k))
 |[],j+1,k,hd,hk,_=>by
  have:k=l.length:=by
   rcases zE1 k l.length with h'|h'
   ·rw[zC1 h']at hd;cases hd
   ·omega
  subst this
  rw[hexit,List.drop_eq_nil_of_le (by omega)];simp
 |x::t,j+1,k,hd,hk,hj=>by
  obtain⟨h2,h3,h4⟩:=B3d hd x
  have hx:l[k]=x:=by simpa[List.getD,h2]using h3
  rw[hstep j k h2 (by omega),hx,zC1 (show k<m.length by omega)]
  split
  ·rename_i e
   rw[D0m l m hlm L hexit hstep t j (k+1) h4 (by omega) (by simp at hj;omega)]
   congr 1;exact decide_eq_decide.mpr ⟨fun h=>by rw[e,h],fun h=>(List.cons.inj h).2⟩
  ·rename_i e
   congr 1;exact(zK fun h=>e (List.cons.inj h).1).symm
def idxFrom {α:Type}(p:α→Bool):List α→Nat→Int
 |[],_=> -1
 |x::t,k=>if p x=true then(k:Int)else idxFrom p t (k+1)
def idx {α:Type}(p:α→Bool)(l:List α):Int:=idxFrom p l 0
theorem B8r {α:Type}(p:α→Bool)(l:List α)(L:Nat→Nat→Option Int)(hexit:∀j,L (j+1) l.length=some (-1))
  (hstep:∀j k (h:k<l.length),L (j+1) k=if p l[k]=true then some (k:Int)else L j (k+1)):
  ∀(t:List α) (j k:Nat),l.drop k=t→k≤l.length→t.length<j→L j k=some (idxFrom p t k)
 |[],j+1,k,hd,hk,_=>by
  have:k=l.length:=by
   rcases zE1 k l.length with h'|h'
   ·rw[zC1 h']at hd;cases hd
   ·omega
  subst this;rw[hexit];rfl
 |x::t,j+1,k,hd,hk,hj=>by
  obtain⟨h2,h3,h4⟩:=B3d hd x
  have hx:l[k]=x:=by simpa[List.getD,h2]using h3
  rw[hstep j k h2,hx,B8r p l L hexit hstep t j (k+1) h4 (by omega) (by simp at hj;omega)]
  simp only[idxFrom];split<;>rfl
theorem D8t {α:Type}(p:α→Bool)(l:List α)(L:Nat→Nat→Option Bool)(r:Option Bool)(hexit:∀j,L (j+1) l.length=r)
  (hstep:∀j k (h:k<l.length),L (j+1) k=if p l[k]=true then L j (k+1)else some false):
  ∀(t:List α) (j k:Nat),l.drop k=t→k≤l.length→t.length<j→L j k=if t.all p=true then r else some false
 |[],j+1,k,hd,hk,_=>by
  have:k=l.length:=by
   rcases zE1 k l.length with h'|h'
   ·rw[zC1 h']at hd;cases hd
   ·omega
  subst this;rw[hexit];rfl
 |x::t,j+1,k,hd,hk,hj=>by
  obtain⟨h2,h3,h4⟩:=B3d hd x
  have hx:l[k]=x:=by simpa[List.getD,h2]using h3
  rw[hstep j k h2,hx,D8t p l L r hexit hstep t j (k+1) h4 (by omega) (by simp at hj;omega)]
  by_cases hp:p x=true<;>simp[hp]
theorem B8j {b:Bool}{α:Type}(x y:α):(bif !b then y else x)=if b=true then x else y:=by cases b<;>rfl
theorem B8q {b:Bool}{α:Type}(x y:α):(bif b then x else y)=if b=true then x else y:=by cases b<;>rfl
theorem D1p {α:Type}(p:α→Bool):∀(l:List α) (k:Nat),idxFrom p l k= -1∨((k:Int)≤idxFrom p l k∧idxFrom p l k<(k+l.length:Nat))
 |[],k=> .inl rfl
 |x::t,k=>by
  simp only[idxFrom]
  split
  ·right;simp only[zW];omega
  ·rcases D1p p t (k+1)with h|h
   ·exact .inl h
   ·right;simp only[zW];omega
theorem C0z {α:Type}(p:α→Bool)(l:List α): -1≤idx p l∧idx p l<(l.length:Int):=by
 rcases D1p p l 0 with h|h
 ·unfold idx;rw[h];omega
 ·unfold idx;omega
def B3a {α:Type}(p:α→Nat→Bool):List α→Nat→Bool
 |[],_=>true
 |x::t,k=>p x k&&B3a p t (k+1)
theorem B48 {α:Type}(p:α→Nat→Bool)(l:List α)(L:Nat→Nat→Option Bool)(r:Option Bool)(hexit:∀j,L (j+1) l.length=r)
  (hstep:∀j k (h:k<l.length),L (j+1) k=if p l[k] k=true then L j (k+1)else some false):
  ∀(t:List α) (j k:Nat),l.drop k=t→k≤l.length→t.length<j→L j k=if B3a p t k=true then r else some false
 |[],j+1,k,hd,hk,_=>by
  have:k=l.length:=by
   rcases zE1 k l.length with h'|h'
   ·rw[zC1 h']at hd;cases hd
   ·omega
  subst this;rw[hexit];rfl
 |x::t,j+1,k,hd,hk,hj=>by
  obtain⟨h2,h3,h4⟩:=B3d hd x
  have hx:l[k]=x:=by simpa[List.getD,h2]using h3
  rw[hstep j k h2,hx,B48 p l L r hexit hstep t j (k+1) h4 (by omega) (by simp at hj;omega)]
  by_cases hp:p x k=true<;>simp[hp,B3a]
def runs {α S:Type}(f:α→S→Option S):List α→S→Option S
 |[],s=>some s
 |x::t,s=>(f x s).bind (runs f t)
def after {S T:Type}(o:Option S)(X:T)(R:S→T):T:=match o with
 |some s=>R s
 |none=>X
theorem D4f {α S T:Type}(l:List α)(f:α→S→Option S)(L:Nat→Nat→S→T)(R:S→T)(X:T)(Inv:S→Prop)(hinv:∀x∈l,∀s s',Inv s→f x s=some s'→Inv s')
  (hexit:∀j s,Inv s→L (j+1) l.length s=R s) (hstep:∀j k s (h:k<l.length),Inv s→L (j+1) k s=after (f l[k] s) X fun s'=>L j (k+1) s'):
  ∀(t:List α) (j k:Nat) (s:S),l.drop k=t→k≤l.length→t.length<j→Inv s→L j k s=after (runs f t s) X R
 |[],j+1,k,s,hd,hk,_,hs=>by
  have:k=l.length:=by
   rcases zE1 k l.length with h'|h'
   ·rw[zC1 h']at hd;cases hd
   ·omega
  subst this;rw[hexit _ _ hs];rfl
 |x::t,j+1,k,s,hd,hk,hj,hs=>by
  obtain⟨h2,h3,h4⟩:=B3d hd x
  have hx:l[k]=x:=by simpa[List.getD,h2]using h3
  rw[hstep j k s h2 hs,hx]
  simp only[runs]
  cases hf:f x s with
  |none=>rfl
  |some s'=>exact D4f l f L R X Inv hinv hexit hstep t j (k+1) s' h4 (by omega) (by simp at hj;omega) (hinv x (by rw[←hx];exact zL h2) s s' hs hf)
theorem C40 {α:Type}(p:α→Nat→Bool)(Q:Nat→Prop)(l:List α)(L:Nat→Nat→Option Bool)(r:Option Bool)(hexit:∀j,L (j+1) l.length=r)
  (hQ:∀k (h:k<l.length),Q k→p l[k] k=true→Q (k+1)) (hstep:∀j k (h:k<l.length),Q k→L (j+1) k=if p l[k] k=true then L j (k+1)else some false):
  ∀(t:List α) (j k:Nat),l.drop k=t→k≤l.length→t.length<j→Q k→L j k=if B3a p t k=true then r else some false
 |[],j+1,k,hd,hk,_,_=>by
  have:k=l.length:=by
   rcases zE1 k l.length with h'|h'
   ·rw[zC1 h']at hd;cases hd
   ·omega
  subst this;rw[hexit];rfl
 |x::t,j+1,k,hd,hk,hj,hq=>by
  obtain⟨h2,h3,h4⟩:=B3d hd x
  have hx:l[k]=x:=by simpa[List.getD,h2]using h3
  rw[hstep j k h2 hq,hx]
  by_cases hp:p x k=true
  ·rw[C40 p Q l L r hexit hQ hstep t j (k+1) h4 (by omega) (by simp at hj;omega) (hQ k h2 hq (by rw[hx];exact hp))]
   simp[hp,B3a]
  ·simp[hp,B3a]
theorem B43 {α:Type}(p:α→Nat→Bool):∀(l:List α) (k:Nat),B3a p l k=true↔∀i (h:i<l.length),p l[i] (k+i)=true
 |[],k=>by simp[B3a]
 |x::t,k=>by
  simp only[B3a,zJ,B43 p t (k+1)]
  constructor
  ·rintro⟨h1,h2⟩ i hi
   cases i with
   |zero=>exact h1
   |succ i=>have:=h2 i (by simp at hi;omega);rwa[show k+1+i=k+(i+1)by omega]at this
  ·intro h
   refine⟨h 0 (by simp),fun i hi=>?_⟩
   have:=h (i+1) (by simp;omega)
   rwa[show k+(i+1)=k+1+i by omega]at this
theorem C33 {α β:Type}(l:List α)(g:α→β)(L:Nat→Nat→List β→Option (List β))(hexit:∀j s,L (j+1) l.length s=some s)
  (hstep:∀j k s (h:k<l.length),s.length=k→L (j+1) k s=L j (k+1) (s++[g l[k]])):∀(t:List α) (j k:Nat) (s:List β),l.drop k=t→k≤l.length→t.length<j→s.length=k→L j k s=some (s++t.map g)
 |[],j+1,k,s,hd,hk,_,hs=>by
  have:k=l.length:=by
   rcases zE1 k l.length with h'|h'
   ·rw[zC1 h']at hd;cases hd
   ·omega
  subst this;rw[hexit];simp
 |x::t,j+1,k,s,hd,hk,hj,hs=>by
  obtain⟨h2,h3,h4⟩:=B3d hd x
  have hx:l[k]=x:=by simpa[List.getD,h2]using h3
  rw[hstep j k s h2 hs,hx,C33 l g L hexit hstep t j (k+1) _ h4 (by omega) (by simp at hj;omega) (by simp[hs])]
  simp
abbrev B6p:=Int×(Int×(ByteArray))
instance i_Val:DecidableEq B6p:=@instDecidableEqProd _ _ inferInstance (@instDecidableEqProd _ _ inferInstance (inferInstance))
def B97 (k:Nat)(x:B6p):Prop:=x.2.2.size≤k
abbrev B2e:=List B6p
def D3f (k:Nat)(l:B2e):Prop:=l.length≤k∧∀x∈l,B97 k x
abbrev B4n:=ByteArray×(Int×(Bool×(Bool×(B6p))))
instance i_Col:DecidableEq B4n:=@instDecidableEqProd _ _ inferInstance (@instDecidableEqProd _ _ inferInstance (@instDecidableEqProd _ _ inferInstance (@instDecidableEqProd _ _ inferInstance (inferInstance))))
def B9f (k:Nat)(x:B4n):Prop:=x.1.size≤k∧B97 k x.2.2.2.2
abbrev B2g:=List B4n
def E07 (k:Nat)(l:B2g):Prop:=l.length≤k∧∀x∈l,B9f k x
abbrev B2f:=List ByteArray
def C95 (k:Nat)(l:B2f):Prop:=l.length≤k∧∀x∈l,x.size≤k
abbrev C1:=ByteArray×(B2g×(B2f))
instance i_Table:DecidableEq C1:=@instDecidableEqProd _ _ inferInstance (@instDecidableEqProd _ _ inferInstance (inferInstance))
def B2j (k:Nat)(x:C1):Prop:=x.1.size≤k∧E07 k x.2.1∧C95 k x.2.2
abbrev B25:=List C1
def B8z (k:Nat)(l:B25):Prop:=l.length≤k∧∀x∈l,B2j k x
abbrev E27:=B25
def E2o (k:Nat)(x:E27):Prop:=B8z k x
abbrev B3q:=B2e
def C39 (k:Nat)(x:B3q):Prop:=D3f k x
abbrev A7d:=List B3q
def B34 (k:Nat)(l:A7d):Prop:=l.length≤k∧∀x∈l,C39 k x
abbrev D1g:=A7d
def E23 (k:Nat)(x:D1g):Prop:=B34 k x
abbrev B6l:=List D1g
def E1s (k:Nat)(l:B6l):Prop:=l.length≤k∧∀x∈l,E23 k x
abbrev B7j:=E27×(B6l)
instance i_Db:DecidableEq B7j:=@instDecidableEqProd _ _ inferInstance (inferInstance)
def C1o (k:Nat)(x:B7j):Prop:=E2o k x.1∧E1s k x.2
abbrev B2w:=Int×(ByteArray×(B2g×(B2f×(ByteArray×(ByteArray)))))
instance i_Ddl:DecidableEq B2w:=@instDecidableEqProd _ _ inferInstance (@instDecidableEqProd _ _ inferInstance (@instDecidableEqProd _ _ inferInstance (@instDecidableEqProd _ _ inferInstance (@instDecidableEqProd _ _ inferInstance (inferInstance)))))
def C1r (k:Nat)(x:B2w):Prop:=x.2.1.size≤k∧E07 k x.2.2.1∧C95 k x.2.2.2.1∧x.2.2.2.2.1.size≤k∧x.2.2.2.2.2.size≤k
abbrev B32:=Int×(ByteArray×(B2e×(B3q×(B2w))))
instance i_Stmt:DecidableEq B32:=@instDecidableEqProd _ _ inferInstance (@instDecidableEqProd _ _ inferInstance (@instDecidableEqProd _ _ inferInstance (@instDecidableEqProd _ _ inferInstance (inferInstance))))
def B99 (k:Nat)(x:B32):Prop:=x.2.1.size≤k∧D3f k x.2.2.1∧C39 k x.2.2.2.1∧C1r k x.2.2.2.2
abbrev E2t:=Int×(Int×(B32))
instance i_Rec:DecidableEq E2t:=@instDecidableEqProd _ _ inferInstance (@instDecidableEqProd _ _ inferInstance (inferInstance))
abbrev D7e:=List Int
def D9e (k:Nat)(l:D7e):Prop:=l.length≤k∧∀x∈l,0≤x∧x≤255
theorem E2q {n b:Nat}(hb:1≤b)(h:n*b≤reachBytes):n≤140737488355328:=Nat.le_trans (Nat.le_trans (Nat.le_mul_of_pos_right n hb) h) (by decide)
abbrev E1t:Kd:= .sl (.int .u8)
theorem E33 {B:Kd→Nat}(hB:∀g,1≤B g)(x:D7e)(h:Wf B E1t x):D9e 140737488355328 x:=⟨E2q (hB _) h.1,fun y hy=>h.2 y hy⟩
abbrev E0:ByteArray:=⟨#[]⟩
theorem C4q:EV fun n=>∀a b c,B75 n a b c=some (decide (b≤a∧a≤c)):=EV.true.up fun n _ a b c=>by
 simp only[B75]
 by_cases h:b≤a<;>simp[h]
theorem E0k:EV fun n=>∀a,C3s n a=some (decide (-1099511627775≤a∧a≤1099511627775)):=EV.true.up fun n _ a=>by
 simp only[C3s]
 by_cases h: -1099511627775≤a<;>simp[h]
def lower (b:UInt8):Bool:=decide (97≤b.toNat∧b.toNat≤122)
def B3c (s:ByteArray):Bool:=s.data.toList.all lower&&decide (1≤s.size∧s.size≤8)
theorem C1c:EV fun n=>∀s:ByteArray,s.size≤1048576→B61 n s=some (B3c s):=(EV.gt 1048576).up fun n h s hs=>by
 rw[B61]
 refine(E0n s (fun j k (_:Unit)=>B7w n j s (k:Int)) (fun t _=>some (t.all lower&&decide (1≤s.size∧s.size≤8))) (fun j _=>?_) (fun j k x t _ hd hk hb ih=>?_) (by omega) ())
 ·simp only[B7w,D2,zP,zH,zA,List.all_nil,zG1]
  by_cases h1:(1:Int)≤(s.size:Int)
  ·simp only[zD h1,zB];congr 1;exact decide_eq_decide.mpr (by omega)
  ·simp only[zK h1,zA];congr 1;exact(zK (by omega)).symm
 ·simp only[B7w,D2,zD hk,D1 hk,zB,hb,D3 hk (by omega),List.all_cons]
  have:=ih ()
  rw[this]
  by_cases h1:(x.toNat:Int)<97
  ·have:lower x=false:=zK (by omega)
   simp only[zD h1,zB,this,Bool.false_and]
  ·by_cases h2:(122:Int)<(x.toNat:Int)
   ·have:lower x=false:=zK (by omega)
    simp only[zD h2,zK h1,zB,zA,this,Bool.false_and]
   ·have:lower x=true:=zD (by omega)
    simp only[zK h2,zK h1,zA,this,zG1]
theorem C13:EV fun n=>∀s:ByteArray,s.size≤1048576→B5y n s=some (B3c s):=(C4q.and (EV.gt 1048576)).up fun n ⟨hw,h⟩ s hs=>by
 rw[B5y]
 refine(E0n s (fun j k (_:Unit)=>B7r n j s (k:Int)) (fun t _=>some (t.all lower&&decide (1≤s.size∧s.size≤8))) (fun j _=>?_) (fun j k x t _ hd hk hb ih=>?_) (by omega) ())
 ·simp only[B7r,D2,zP,zH,zA,List.all_nil,zG1,hw,zC]
  congr 1;exact decide_eq_decide.mpr (by omega)
 ·simp only[B7r,D2,zD hk,D1 hk,zB,hb,D3 hk (by omega),List.all_cons]
  have:=ih ()
  rw[this]
  by_cases h1:(x.toNat:Int)<97
  ·have:lower x=false:=zK (by omega)
   simp only[zD h1,zB,this,Bool.false_and]
  ·by_cases h2:(122:Int)<(x.toNat:Int)
   ·have:lower x=false:=zK (by omega)
    simp only[zD h2,zK h1,zB,zA,this,Bool.false_and]
   ·have:lower x=true:=zD (by omega)
    simp only[zK h2,zK h1,zA,this,zG1]
def B4i (a b:Int)(s:ByteArray):Bool:=
 if a=0 then decide (b=0)&&decide (s=E0)else if a=1 then decide (b=0∨b=1)&&decide (s=E0)else
 if a=2 then decide (-1099511627775≤b∧b≤1099511627775)&&decide (s=E0)else if a=3 then decide (b=0)&&decide (s.size≤30)else false
theorem C23:EV fun n=>∀a b s,B8e n a b s=some (B4i a b s):=E0k.up fun n h a b s=>by
 have hz:decide ((s.size:Int)≤30)=decide (s.size≤30):=decide_eq_decide.mpr (by omega)
 simp only[B8e,h,B41,zC,B2z,hz]
 generalize he:decide (s=E0)=e
 have he':decide (s=⟨#[]⟩)=e:=he
 simp only[B4i,he,he']
 by_cases h0:a=0
 ·subst h0;by_cases hb:b=0<;>simp[hb]
 ·by_cases h1:a=1
  ·subst h1;by_cases hb:b=0
   ·simp[hb]
   ·by_cases hb1:b=1<;>simp[hb,hb1]
  ·by_cases h2:a=2
   ·subst h2;by_cases hb: -1099511627775≤b∧b≤1099511627775<;>simp[hb]
   ·by_cases h3:a=3
    ·subst h3;by_cases hb:b=0<;>simp[hb]
    ·simp[h0,h1,h2,h3]
theorem C06:EV fun n=>∀a b s,B8c n a b s=some (B4i a b s):=C4q.up fun n h a b s=>by
 have hz:decide ((s.size:Int)≤30)=decide (s.size≤30):=decide_eq_decide.mpr (by omega)
 simp only[B8c,h,B41,zC,B2z,hz]
 generalize he:decide (s=E0)=e
 have he':decide (s=⟨#[]⟩)=e:=he
 simp only[B4i,he,he']
 by_cases h0:a=0
 ·subst h0;by_cases hb:b=0<;>simp[hb]
 ·by_cases h1:a=1
  ·subst h1;by_cases hb:b=0
   ·simp[hb]
   ·by_cases hb1:b=1
    ·simp[hb,hb1]
    ·have:¬(0≤b∧b≤1):=by omega
     simp[hb,hb1,this]
  ·by_cases h2:a=2
   ·subst h2;by_cases hb: -1099511627775≤b∧b≤1099511627775<;>simp[hb]
   ·by_cases h3:a=3
    ·subst h3;by_cases hb:b=0<;>simp[hb]
    ·simp[h0,h1,h2,h3]
def B73 (x y:B6p):Bool:=
 B4i x.1 x.2.1 x.2.2&&B4i y.1 y.2.1 y.2.2&&(if x.1=y.1 then(if x.2.1=y.2.1 then Op.bytesLess x.2.2.toList y.2.2.toList else decide (x.2.1<y.2.1))else decide (x.1<y.1))
theorem C5h:EV fun n=>∀x y:B6p,C1b n x.1 x.2.1 x.2.2 y.1 y.2.1 y.2.2=some (B73 x y):=C23.up fun n h x y=>by
 obtain⟨a,b,s⟩:=x;obtain⟨c,d,t⟩:=y
 simp only[C1b,h,zC,B73,B2z,B4a]
 cases B4i a b s<;>cases B4i c d t<;>simp
 by_cases h1:a=c
 ·by_cases h2:b=d
  ·simp[h1,h2]
  ·by_cases h3:b<d<;>simp[h1,h2,h3]
 ·simp[h1]
theorem D2t:EV fun n=>∀x y:B6p,C12 n x.1 x.2.1 x.2.2 y.1 y.2.1 y.2.2=some (B73 x y):=C06.up fun n h x y=>by
 obtain⟨a,b,s⟩:=x;obtain⟨c,d,t⟩:=y
 simp only[C12,h,zC,B73,B2z,B4a]
 cases B4i a b s<;>cases B4i c d t<;>simp
 by_cases h1:a=c
 ·by_cases h2:b=d
  ·simp[h1,h2]
  ·by_cases h3:b<d<;>simp[h1,h2,h3]
 ·simp[h1]
def C0w:B6p:=(0,0,E0)
def B67 (x:B4n):Bool:=
 B3c x.1&&decide (1≤x.2.1∧x.2.1≤3)&&(if x.2.2.2.1 then B4i x.2.2.2.2.1 x.2.2.2.2.2.1 x.2.2.2.2.2.2&&(decide (x.2.2.2.2.1=x.2.1)||decide (x.2.2.2.2.1=0)&& !x.2.2.1)else decide (x.2.2.2.2=C0w))
theorem E04 (a b:Int)(s:ByteArray):((a==(0:Int))&&((b==(0:Int))&&(decide (s=E0)&&true)))=decide ((a,b,s)=C0w):=by
 by_cases h1:a=0<;>by_cases h2:b=0<;>by_cases h3:s=E0<;>simp[C0w,h1,h2,h3]
theorem C8r:EV fun n=>∀x:B4n,B9f 1048576 x→C1s n x.1 x.2.1 x.2.2.1 x.2.2.2.1 x.2.2.2.2.1 x.2.2.2.2.2.1 x.2.2.2.2.2.2=some (B67 x):=(C1c.and C23).up fun n ⟨h1,h2⟩ x hs=>by
 obtain⟨a,t,nt,hs',v⟩:=x
 obtain⟨b,c,s⟩:=v
 have hw:=h1 a hs.1
 simp only[C1s,hw,h2,zC,B41,E04,B67]
 cases B3c a
 ·simp
 by_cases c1:t<1
 ·simp[c1];omega
 by_cases c2:3<t
 ·simp[c1,c2];omega
 have c3:1≤t∧t≤3:=by omega
 simp only[zT,zA,zK c1,zK c2,zD c3,zG1]
 cases hs'<;>simp
 cases hv:B4i b c s
 ·simp
 by_cases hn:(b,c,s)=C0w
 ·have h0:¬(0:Int)=t:=by omega
  simp only[C0w,zR]at hn;obtain⟨rfl,rfl,rfl⟩:=hn
  cases nt<;>simp[C0w,h0]
 ·by_cases hbt:b=t
  ·subst hbt;cases nt<;>simp[hn,B2z]
  ·by_cases hb:b=0
   ·exfalso
    subst hb
    simp[B4i]at hv
    exact hn (by simp[C0w,hv])
   ·cases nt<;>simp[hn,hbt,hb,B2z]
theorem C8n:EV fun n=>∀x:B4n,B9f 1048576 x→C2z n x.1 x.2.1 x.2.2.1 x.2.2.2.1 x.2.2.2.2.1 x.2.2.2.2.2.1 x.2.2.2.2.2.2=some (B67 x):=(C13.and (C06.and C4q)).up fun n ⟨h1,h2,h3⟩ x hs=>by
 obtain⟨a,t,nt,hs',v⟩:=x
 obtain⟨b,c,s⟩:=v
 have hw:=h1 a hs.1
 simp only[C2z,hw,h2,h3,zC,B41,E04,B67]
 cases B3c a
 ·simp
 by_cases c3:1≤t∧t≤3
 ·simp only[zT,zA,zD c3,zG1]
  cases hs'
  ·by_cases hn:(b,c,s)=C0w
   ·have:B4i b c s=true:=by
     simp[C0w]at hn;obtain⟨rfl,rfl,rfl⟩:=hn;rfl
    simp[hn,this]
   ·cases B4i b c s<;>simp[hn]
  ·cases B4i b c s<;>simp
   by_cases hbt:b=t
   ·simp[hbt,B2z]
   ·by_cases hb:b=0
    ·subst hb;cases nt<;>simp[hbt,B2z]
    ·simp[hbt,hb,B2z]
 ·simp[zK c3]
theorem D8o (x y:B6p):((x.1==y.1)&&((x.2.1==y.2.1)&&((x.2.2.toList==y.2.2.toList)&&true)))=decide (x=y):=by
 obtain⟨a,b,s⟩:=x;obtain⟨c,d,t⟩:=y
 simp only[B41,B2z]
 by_cases h1:a=c<;>by_cases h2:b=d<;>by_cases h3:s=t<;>simp[h1,h2,h3]
def B2x:List B6p→List B6p→Bool
 |[],[]=>false
 |[],_::_=>true
 |_::_,[]=>false
 |x::s,y::t=>if x=y then B2x s t else B73 x y
theorem C2h:EV fun n=>∀x y:B2e,x.length≤1048576→B9u n x y=some (B2x x y):=(C5h.and (EV.gt 1048576)).up fun n ⟨h,hn⟩ x y hx=>by
 rw[B9u]
 have key:∀(s:B2e) (j k:Nat),x.drop k=s→k≤x.length→k≤y.length→s.length<j→B4f n j x y (k:Int)=some (B2x s (y.drop k)):=by
  intro s
  induction s with
  |nil=>
   intro j k hd hk hky hj
   obtain⟨j,rfl⟩:∃i,j=i+1:=⟨j - 1,by simp at hj;omega⟩
   have:k=x.length:=by
    rcases zE1 k x.length with h'|h'
    ·rw[zC1 h']at hd;cases hd
    ·omega
   subst this
   simp only[B4f,D2,zP,zH,zA]
   cases hy:y.drop x.length with
   |nil=>
    have:y.length≤x.length:=List.drop_eq_nil_iff.mp hy
    rw[zK (by omega)];rfl
   |cons z t=>
    have:x.length<y.length:=(B3d hy z).1
    rw[zD this];rfl
  |cons a s ih=>
   intro j k hd hk hky hj
   obtain⟨j,rfl⟩:∃i,j=i+1:=⟨j - 1,by simp at hj;omega⟩
   obtain⟨h1,h2,h3⟩:=B3d hd (0,0,E0)
   simp only[B4f,D2,zD h1,zB]
   cases hy:y.drop k with
   |nil=>
    have:y.length≤k:=List.drop_eq_nil_iff.mp hy
    rw[zK (by omega),zA,zK (by omega)];rfl
   |cons b t=>
    obtain⟨g1,g2,g3⟩:=B3d hy (0,0,E0)
    simp only[zD g1,zB,D1 h1,D1 g1,zE,D3 h1 (by omega)]
    rw[show x.getD k (0,0,⟨#[]⟩)=a from h2,show y.getD k (0,0,⟨#[]⟩)=b from g2,D8o,h,ih j (k+1) h3 (by omega) (by omega) (by simp at hj;omega),g3]
    simp only[B2x,B8j,zC]
    by_cases e:a=b<;>simp[e]
 exact key x n 0 rfl (by omega) (by omega) (by omega)
theorem C31 {n:Nat}(h:∀x y:B6p,C12 n x.1 x.2.1 x.2.2 y.1 y.2.1 y.2.2=C1b n x.1 x.2.1 x.2.2 y.1 y.2.1 y.2.2):∀(j:Nat) (x y:B2e) (i:Int),B8m n j x y i=B4f n j x y i
 |0,_,_,_=>rfl
 |j+1,x,y,i=>by simp only[B8m,B4f,h,C31 h j]
theorem C5e:EV fun n=>∀x y:B2e,x.length≤1048576→C11 n x y=some (B2x x y):=by
 obtain⟨N,h⟩:=C2h.and (C5h.and D2t)
 refine⟨N+1,fun n hn x y hx=>?_⟩
 obtain⟨m,rfl⟩:∃m,n=m+1:=⟨n - 1,by omega⟩
 have h1:=(h (m+1) (by omega)).1 x y hx
 have h2:=(h m (by omega)).2
 rw[B9u]at h1
 rw[C11,C31 (fun x y=>by rw[h2.1,h2.2])]
 exact h1
theorem C7o:EV fun n=>∀x y:B2e,x.length≤1048576→B9x n x y=some (decide (x=y)):=(EV.gt 1048576).up fun n hn x y hx=>by
 rw[B9x]
 by_cases hl:x.length=y.length
 ·have:((x.length:Int) !=(y.length:Int))=false:=by simp[hl]
  simp only[this,zA]
  refine(D0m x y hl (fun j k=>B4c n j x y (x.length:Int) (k:Int)) (fun j=>by simp only[B4c,D2,zP,zH,zA]) (fun j k hk hk2=>?_) x n 0 rfl (by omega) (by omega)).trans (by simp)
  simp only[B4c,D2,zD hk,D1 hk,D1 hk2,zE,getD_at hk,getD_at hk2,zB,D3 hk (by omega),D8o]
  exact D3b _ _ _
 ·have:((x.length:Int) !=(y.length:Int))=true:=by simp;omega
  simp only[this,zB]
  congr 1;exact(zK fun h=>hl (by rw[h])).symm
theorem C37:EV fun n=>∀x y:B2e,x.length≤1048576→B33 n x y=some (decide (x=y)):=(EV.gt 1048576).up fun n hn x y hx=>by
 rw[B33]
 by_cases hl:x.length=y.length
 ·have:((x.length:Int) !=(y.length:Int))=false:=by simp[hl]
  simp only[this,zA]
  refine(D0m x y hl (fun j k=>B2v n j x y (x.length:Int) (k:Int)) (fun j=>by simp only[B2v,D2,zP,zH,zA]) (fun j k hk hk2=>?_) x n 0 rfl (by omega) (by omega)).trans (by simp)
  simp only[B2v,D2,zD hk,D1 hk,D1 hk2,zE,getD_at hk,getD_at hk2,zB,D3 hk (by omega),D8o]
  exact D3b _ _ _
 ·have:((x.length:Int) !=(y.length:Int))=true:=by simp;omega
  simp only[this,zB]
  congr 1;exact(zK fun h=>hl (by rw[h])).symm
def D4 (cs:B2g)(name:ByteArray):Int:=idx (fun c=>decide (c.1=name)) cs
theorem B91:EV fun n=>∀(a:ByteArray) (cs:B2g) (ks:B2f) (s:ByteArray),cs.length≤1048576→B5b n a cs ks s=some (D4 cs s):=(EV.gt 1048576).up fun n hn a cs ks s hl=>by
 rw[B5b]
 refine B8r (fun c=>decide (c.1=s)) cs (fun j k=>B90 n j s cs (cs.length:Int) (k:Int)) (fun j=>by simp only[B90,D2,zP,zH,zA]) (fun j k hk=>?_) cs n 0 rfl (by omega) (by omega)
 simp only[B90,D2,zD hk,D1 hk,zE,getD_at hk,zB,D3 hk (by omega),B41]
 exact B8q _ _
theorem B8s:EV fun n=>∀(a:ByteArray) (cs:B2g) (ks:B2f) (s:ByteArray),cs.length≤1048576→B2h n a cs ks s=some (idx (fun c=>decide (c.1=s)) cs):=
 ((EV.true.up (q:=fun n=>∀(x:B4n) (s:ByteArray),C2n n x.1 x.2.1 x.2.2.1 x.2.2.2.1 x.2.2.2.2.1 x.2.2.2.2.2.1 x.2.2.2.2.2.2 s=some (decide (x.1=s))) fun n h x s=>by simp only[C2n,B41]).and (EV.gt 1048576)).up
  (q:=fun n=>∀(cs:B2g) (s:ByteArray),cs.length≤1048576→B2s n cs s=some (idx (fun c=>decide (c.1=s)) cs)) (fun n ⟨h,hn⟩ cs s hl=>by
  rw[B2s]
  refine B8r (fun c=>decide (c.1=s)) cs (fun j k=>B2c n j cs s (cs.length:Int) (k:Int)) (fun j=>by simp only[B2c,D2,zP,zH,zA]) (fun j k hk=>?_) cs n 0 rfl (by omega) (by omega)
  simp only[B2c,D2,zD hk,D1 hk,zE,getD_at hk,zB,D3 hk (by omega),h,zC]
  exact B8q _ _)|>.up fun n h a cs ks s hl=>by simp only[B2h,h cs s hl,zC]
def B3s (cs:B2g)(key:ByteArray)(last:Int):Option Int:=if last<D4 cs key∧(cs.getD (D4 cs key).toNat (E0,(0,(false,(false,C0w))))).2.2.1=true then some (D4 cs key)else none
def B27 (x:C1):Bool:=
 B3c x.1&&decide (1≤x.2.1.length∧x.2.1.length≤8)&&decide (1≤x.2.2.length)&&B3a (fun c k=>B67 c&&decide (D4 x.2.1 c.1=(k:Int))) x.2.1 0&&(runs (B3s x.2.1) x.2.2 (-1)).isSome
theorem B8n:EV fun n=>∀x:C1,B2j 1048576 x→B5s n x.1 x.2.1 x.2.2=some (B27 x):=(C1c.and (C8r.and (B91.and (EV.gt 1048576)))).up fun n ⟨h1,h2,h3,hn⟩ x hs=>by
 obtain⟨a,cs,ks⟩:=x
 obtain⟨s1,s2,s3⟩:=hs
 have s1:a.size≤1048576:=s1
 have s2l:cs.length≤1048576:=s2.1
 have s3l:ks.length≤1048576:=s3.1
 have hL2:B5d n n (-1) ks (ks.length:Int) 0 a cs ks=after (runs (B3s cs) ks (-1)) (some false) fun _=>some true:=by
  refine D4f ks (B3s cs) (fun j k s=>B5d n j s ks (ks.length:Int) (k:Int) a cs ks) (fun _=>some true) (some false) (fun s=> -1≤s) (fun x hx s s' h h'=>?_) (fun j s _=>by simp only[B5d,D2,zP,zH,zA]) (fun j k s hk hs=>?_) ks n 0 (-1) rfl (by omega) (by omega) (by decide)
  ·simp only[B3s]at h';split at h'
   ·obtain rfl:=oI h';exact(C0z _ _).1
   ·cases h'
  ·simp only[B5d,D2,zD hk,D1 hk,zE,getD_at hk,zB,D3 hk (by omega),h3 _ _ _ _ s2l,zC,B3s]
   obtain⟨i1,i2⟩: -1≤D4 cs ks[k]∧D4 cs ks[k]<(cs.length:Int):=C0z _ _
   by_cases hc:D4 cs ks[k]≤s
   ·rw[zD hc,if_neg (by omega)];rfl
   ·have:inR (D4 cs ks[k]) cs.length=true:=by simp only[inR];exact zD (by omega)
    rw[zK hc,this]
    simp only[zA,zB]
    cases hb:(cs.getD (D4 cs ks[k]).toNat (E0,(0,(false,(false,C0w))))).2.2.1
    ·rw[show(cs.getD (D4 cs ks[k]).toNat (⟨#[]⟩,(0,(false,(false,(0,(0,⟨#[]⟩))))))).2.2.1=false from hb];simp[after]
    ·rw[show(cs.getD (D4 cs ks[k]).toNat (⟨#[]⟩,(0,(false,(false,(0,(0,⟨#[]⟩))))))).2.2.1=true from hb,if_pos ⟨by omega,rfl⟩];rfl
 have hL1:B5c n n cs (cs.length:Int) 0 a cs ks=if B3a (fun c k=>B67 c&&decide (D4 cs c.1=(k:Int))) cs 0=true then(after (runs (B3s cs) ks (-1)) (some false) fun _=>some true)else some false:=by
  refine B48 _ cs (fun j k=>B5c n j cs (cs.length:Int) (k:Int) a cs ks) _ (fun j=>by simp only[B5c,D2,zP,zH,zA,hL2]) (fun j k hk=>?_) cs n 0 rfl (by omega) (by omega)
  simp only[B5c,D2,zD hk,D1 hk,zE,getD_at hk,zB,D3 hk (by omega),h3 _ _ _ _ s2l,zC,h2 cs[k] (s2.2 _ (zL hk)),B4a]
  by_cases e:D4 cs cs[k].1=(k:Int)<;>cases B67 cs[k]<;>simp[e]
 simp only[B5s,h1 a s1,zC,hL1,B27]
 cases B3c a
 ·simp
 by_cases c1:(cs.length:Int)<1
 ·rw[zD c1,zK (show¬(1≤cs.length∧cs.length≤8)by omega)];simp
 by_cases c2:(8:Int)<(cs.length:Int)
 ·rw[zK c1,zD c2,zK (show¬(1≤cs.length∧cs.length≤8)by omega)];simp
 rw[zK c1,zK c2,zD (show(1≤cs.length∧cs.length≤8)by omega)]
 by_cases c3:(ks.length:Int)<1
 ·rw[zD c3,zK (show¬1≤ks.length by omega)];simp
 rw[zK c3,zD (show 1≤ks.length by omega)]
 simp only[zT,zA,zG1]
 cases B3a (fun c k=>B67 c&&decide (D4 cs c.1=(k:Int))) cs 0
 ·simp
 ·cases runs (B3s cs) ks (-1)<;>simp[after]
theorem C0f:EV fun n=>∀x:C1,B2j 1048576 x→B8b n x.1 x.2.1 x.2.2=some (B27 x):=(C13.and (C8n.and (B8s.and (C4q.and (EV.gt 1048576))))).up fun n ⟨h1,h2,h3,h4,hn⟩ x hs=>by
 obtain⟨a,cs,ks⟩:=x
 obtain⟨s1,s2,s3⟩:=hs
 have s1:a.size≤1048576:=s1
 have s2l:cs.length≤1048576:=s2.1
 have s3l:ks.length≤1048576:=s3.1
 have h3:∀s,B2h n a cs ks s=some (D4 cs s):=fun s=>h3 _ _ _ _ s2l
 have hL2:B5a n n (-1) ks (ks.length:Int) 0 a cs ks=after (runs (B3s cs) ks (-1)) (some false) fun _=>some (B3c a&&decide (1≤cs.length∧cs.length≤8)&&decide (1≤ks.length)):=by
  refine D4f ks (B3s cs) (fun j k s=>B5a n j s ks (ks.length:Int) (k:Int) a cs ks) (fun _=>some (B3c a&&decide (1≤cs.length∧cs.length≤8)&&decide (1≤ks.length))) (some false) (fun s=> -1≤s) (fun x hx s s' h h'=>?_) (fun j s _=>?_) (fun j k s hk hs=>?_) ks n 0 (-1) rfl (by omega) (by omega) (by decide)
  ·simp only[B3s]at h';split at h'
   ·obtain rfl:=oI h';exact(C0z _ _).1
   ·cases h'
  ·simp only[B5a,D2,zP,zH,zA,h1 a s1,h4,zC]
   rw[show decide ((1:Int)≤(cs.length:Int)∧(cs.length:Int)≤8)=decide (1≤cs.length∧cs.length≤8)from decide_eq_decide.mpr (by omega),show decide ((0:Int)<(ks.length:Int))=decide (1≤ks.length)from decide_eq_decide.mpr (by omega)]
   cases B3c a<;>cases decide (1≤cs.length∧cs.length≤8)<;>simp
  ·simp only[B5a,D2,zD hk,D1 hk,zE,getD_at hk,zB,D3 hk (by omega),h3,zC,B3s]
   obtain⟨i1,i2⟩: -1≤D4 cs ks[k]∧D4 cs ks[k]<(cs.length:Int):=C0z _ _
   by_cases hc:D4 cs ks[k]≤s
   ·rw[zD hc,if_neg (by omega)];rfl
   ·have:inR (D4 cs ks[k]) cs.length=true:=by simp only[inR];exact zD (by omega)
    rw[zK hc,this]
    simp only[zA,zB]
    cases hb:(cs.getD (D4 cs ks[k]).toNat (E0,(0,(false,(false,C0w))))).2.2.1
    ·rw[show(cs.getD (D4 cs ks[k]).toNat (⟨#[]⟩,(0,(false,(false,(0,(0,⟨#[]⟩))))))).2.2.1=false from hb];simp[after]
    ·rw[show(cs.getD (D4 cs ks[k]).toNat (⟨#[]⟩,(0,(false,(false,(0,(0,⟨#[]⟩))))))).2.2.1=true from hb,if_pos ⟨by omega,rfl⟩];rfl
 simp only[B8b]
 refine(B48 (fun c k=>B67 c&&decide (D4 cs c.1=(k:Int))) cs (fun j k=>B6s n j cs (cs.length:Int) (k:Int) a cs ks) _ (fun j=>by simp only[B6s,D2,zP,zH,zA];exact hL2) (fun j k hk=>?_) cs n 0 rfl (by omega) (by omega)).trans ?_
 ·simp only[B6s,D2,zD hk,D1 hk,zE,getD_at hk,zB,D3 hk (by omega),h3,zC,h2 cs[k] (s2.2 _ (zL hk)),B4a]
  by_cases e:D4 cs cs[k].1=(k:Int)<;>cases B67 cs[k]<;>simp[e]
 ·simp only[B27]
  cases B3a (fun c k=>B67 c&&decide (D4 cs c.1=(k:Int))) cs 0
  ·simp
  ·cases runs (B3s cs) ks (-1)<;>simp[after]
def B3u (l:B25)(t:C1)(k:Nat):Bool:=B27 t&&(decide (k=0)||Op.bytesLess (l.getD (k - 1) (E0,([],[]))).1.toList t.1.toList)
def B5r (l:B25):Bool:=decide (l.length≤6)&&B3a (B3u l) l 0
theorem C75 {k:Nat}(h:0<k)(h2:k≤1048576):IntKind.wrap .i64 ((k:Int) - (1:Int))=((k - 1:Nat):Int):=by rw[wrap64]<;>omega
theorem C8q:EV fun n=>∀l:B25,B8z 1048576 l→C3b n l=some (B5r l):=(B8n.and (EV.gt 1048576)).up fun n ⟨h,hn⟩ l hs=>by
 have hl:=hs.1
 have key:B60 n n l (l.length:Int) 0 l=if B3a (B3u l) l 0=true then some true else some false:=by
  refine B48 (B3u l) l (fun j k=>B60 n j l (l.length:Int) (k:Int) l) _ (fun j=>by simp only[B60,D2,zP,zH,zA]) (fun j k hk=>?_) l n 0 rfl (by omega) (by omega)
  simp only[B60,D2,zD hk,D1 hk,zE,getD_at hk,zB,D3 hk (by omega),h l[k] (hs.2 _ (zL hk)),zC]
  by_cases ht:B27 l[k]=true
  ·by_cases h0:k=0
   ·subst h0
    have:B3u l l[0] 0=true:=by simp[B3u,ht]
    simp[ht,this]
   ·have e:B3u l l[k] k=Op.bytesLess (l.getD (k - 1) (E0,([],[]))).1.toList l[k].1.toList:=by simp[B3u,ht,h0]
    rw[zD (show(0:Int)<(k:Int)by omega),C75 (by omega) (by omega),D1 (show k - 1<l.length by omega),zE,ht,e]
    simp only[zB,zT,zA]
    exact B8j _ _
  ·have:B3u l l[k] k=false:=by simp[B3u,ht]
   simp[ht,this]
 simp only[C3b,B5r,key]
 by_cases c:(6:Int)<(l.length:Int)
 ·rw[zD c,zK (show¬l.length≤6 by omega)];rfl
 ·rw[zK c,zD (show l.length≤6 by omega)]
  cases B3a (B3u l) l 0<;>rfl
theorem C8m:EV fun n=>∀l:B25,B8z 1048576 l→C2y n l=some (B5r l):=(C0f.and (EV.gt 1048576)).up fun n ⟨h,hn⟩ l hs=>by
 have hl:=hs.1
 simp only[C2y]
 refine(B48 (B3u l) l (fun j k=>B7k n j l (l.length:Int) (k:Int) l) (some (decide ((l.length:Int)≤6))) (fun j=>by simp only[B7k,D2,zP,zH,zA]) (fun j k hk=>?_) l n 0 rfl (by omega) (by omega)).trans ?_
 ·simp only[B7k,D2,zD hk,D1 hk,zE,getD_at hk,zB,D3 hk (by omega),h l[k] (hs.2 _ (zL hk)),zC]
  by_cases ht:B27 l[k]=true
  ·by_cases h0:k=0
   ·subst h0
    have:B3u l l[0] 0=true:=by simp[B3u,ht]
    simp[ht,this]
   ·have e:B3u l l[k] k=Op.bytesLess (l.getD (k - 1) (E0,([],[]))).1.toList l[k].1.toList:=by simp[B3u,ht,h0]
    rw[zD (show(0:Int)<(k:Int)by omega),C75 (by omega) (by omega),D1 (show k - 1<l.length by omega),zE,ht,e]
    simp only[zB,zT,zA]
    exact B8j _ _
  ·have:B3u l l[k] k=false:=by simp[B3u,ht]
   simp[ht,this]
 ·simp only[B5r]
  rw[show decide ((l.length:Int)≤6)=decide (l.length≤6)from decide_eq_decide.mpr (by omega)]
  cases B3a (B3u l) l 0<;>simp
theorem E2f (x y:B4n):((x.1.toList==y.1.toList)&&((x.2.1==y.2.1)&&((x.2.2.1==y.2.2.1)&&((x.2.2.2.1==y.2.2.2.1)&&((x.2.2.2.2.1==y.2.2.2.2.1)&&((x.2.2.2.2.2.1==y.2.2.2.2.2.1)&&((x.2.2.2.2.2.2.toList==y.2.2.2.2.2.2.toList)&&true)))))))=decide (x=y):=by
 rw[D8o x.2.2.2.2 y.2.2.2.2]
 obtain⟨a,b,c,d,e⟩:=x;obtain⟨a',b',c',d',e'⟩:=y
 simp only[B41,B2z,Bool.beq_eq_decide_eq]
 by_cases h1:a=a'<;>by_cases h2:b=b'<;>by_cases h3:c=c'<;>by_cases h4:d=d'<;>by_cases h5:e=e'<;>simp[h1,h2,h3,h4,h5,D5d]
theorem C93:EV fun n=>∀x y:B2g,x.length≤1048576→B3t n x y=some (decide (x=y)):=(EV.gt 1048576).up fun n hn x y hx=>by
 rw[B3t]
 by_cases hl:x.length=y.length
 ·have:((x.length:Int) !=(y.length:Int))=false:=by simp[hl]
  simp only[this,zA]
  refine(D0m x y hl (fun j k=>B2u n j x y (x.length:Int) (k:Int)) (fun j=>by simp only[B2u,D2,zP,zH,zA]) (fun j k hk hk2=>?_) x n 0 rfl (by omega) (by omega)).trans (by simp)
  simp only[B2u,D2,zD hk,D1 hk,D1 hk2,zE,getD_at hk,getD_at hk2,zB,D3 hk (by omega),E2f]
  exact D3b _ _ _
 ·have:((x.length:Int) !=(y.length:Int))=true:=by simp;omega
  simp only[this,zB]
  congr 1;exact(zK fun h=>hl (by rw[h])).symm
theorem C94:EV fun n=>∀x y:List ByteArray,x.length≤1048576→B4b n x y=some (decide (x=y)):=(EV.gt 1048576).up fun n hn x y hx=>by
 rw[B4b]
 by_cases hl:x.length=y.length
 ·have:((x.length:Int) !=(y.length:Int))=false:=by simp[hl]
  simp only[this,zA]
  refine(D0m x y hl (fun j k=>B36 n j x y (x.length:Int) (k:Int)) (fun j=>by simp only[B36,D2,zP,zH,zA]) (fun j k hk hk2=>?_) x n 0 rfl (by omega) (by omega)).trans (by simp)
  simp only[B36,D2,zD hk,D1 hk,D1 hk2,zE,getD_at hk,getD_at hk2,zB,D3 hk (by omega),B41]
  exact D3b _ _ _
 ·have:((x.length:Int) !=(y.length:Int))=true:=by simp;omega
  simp only[this,zB]
  congr 1;exact(zK fun h=>hl (by rw[h])).symm
def B84 (c:B4n)(v:B6p):Bool:=B4i v.1 v.2.1 v.2.2&&(if v.1=0 then !c.2.2.1 else decide (v.1=c.2.1))
def CZ:B4n:=(E0,(0,(false,(false,C0w))))
def B3r (cs:B2g)(r:B2e):Bool:=decide (r.length=cs.length)&&B3a (fun c k=>B84 c (r.getD k C0w)) cs 0
def D5 (cs:B2g)(ks:B2f)(r:B2e):B2e:=ks.map fun key=>r.getD (D4 cs key).toNat C0w
theorem D7a {cs:B2g}:∀{ks:B2f} {last:Int},(runs (B3s cs) ks last).isSome=true→ -1≤last→∀key∈ks,0≤D4 cs key∧(cs.getD (D4 cs key).toNat CZ).2.2.1=true
 |[],_,_,_,key,h=>by simp at h
 |x::t,last,h,hl,key,hk=>by
  simp only[runs,B3s]at h
  split at h
  ·rename_i hc
   rcases List.mem_cons.mp hk with rfl|hk
   ·exact⟨by omega,hc.2⟩
   ·exact D7a h (C0z _ _).1 key hk
  ·simp at h
theorem B7h {x:C1}(h:B27 x=true):(∀key∈x.2.2,0≤D4 x.2.1 key∧D4 x.2.1 key<(x.2.1.length:Int)∧(x.2.1.getD (D4 x.2.1 key).toNat CZ).2.2.1=true)∧(∀c∈x.2.1,B67 c=true)∧x.2.1.length≤8∧1≤x.2.1.length:=by
 simp only[B27,zJ,zG]at h
 obtain⟨⟨⟨⟨h1,h2⟩,h3⟩,h4⟩,h5⟩:=h
 refine⟨fun key hk=>?_,fun c hc=>?_,h2.2,h2.1⟩
 ·obtain⟨k1,k2⟩:=D7a h5 (by omega) key hk
  exact⟨k1,(C0z _ _).2,k2⟩
 ·obtain⟨i,hi,rfl⟩:=List.mem_iff_getElem.mp hc
  have:=(B43 _ _ _).mp h4 i hi
  simp only[zJ]at this
  exact this.1
theorem E0v {c:B4n}(h:B67 c=true):1≤c.2.1∧c.2.1≤3:=by
 simp only[B67,zJ,zG]at h
 exact h.1.2
theorem B44 (cs:B2g)(ks:B2f)(r:B2e):(D5 cs ks r).length=ks.length:=by simp[D5]
theorem E03 {cs:B2g}{k:Nat}:cs.getD k (⟨#[]⟩,(0,(false,(false,(0,(0,⟨#[]⟩))))))=cs.getD k CZ:=rfl
theorem C71 {r:B2e}{k:Nat}:r.getD k (0,(0,⟨#[]⟩))=r.getD k C0w:=rfl
theorem D3c {i:Int}{n:Nat}(h1:0≤i)(h2:i<(n:Int)):inR i n=true:=by simp only[inR];exact zD ⟨h1,h2⟩
theorem C5k:EV fun n=>∀(c:B4n) (v:B6p),C1h n c.1 c.2.1 c.2.2.1 c.2.2.2.1 c.2.2.2.2.1 c.2.2.2.2.2.1 c.2.2.2.2.2.2 v.1 v.2.1 v.2.2=some (B84 c v):=C23.up fun n h c v=>by
 simp only[C1h,h,zC,B84,B2z]
 by_cases h0:v.1=0<;>cases B4i v.1 v.2.1 v.2.2<;>simp[h0]
theorem D48:EV fun n=>∀(c:B4n) (v:B6p),c.2.1≠0→C3n n c.1 c.2.1 c.2.2.1 c.2.2.2.1 c.2.2.2.2.1 c.2.2.2.2.2.1 c.2.2.2.2.2.2 v.1 v.2.1 v.2.2=some (B84 c v):=C06.up fun n h c v hc=>by
 simp only[C3n,h,zC,B84,B2z]
 cases B4i v.1 v.2.1 v.2.2
 ·simp
 ·by_cases h0:v.1=0
  ·have:¬(0:Int)=c.2.1:=fun e=>hc e.symm
   simp[h0,this]
  ·by_cases h1:v.1=c.2.1<;>simp[h0,h1]
   exact .inl hc
theorem C22:EV fun n=>∀(x:C1) (r:B2e),B2j 1048576 x→C0j n x.1 x.2.1 x.2.2 r=some (B27 x&&B3r x.2.1 r):=(B8n.and (C5k.and (EV.gt 1048576))).up fun n ⟨h1,h2,hn⟩ x r hs=>by
 have lc:=hs.2.1.1
 simp only[C0j,h1 x hs,zC,B4a,B3r]
 cases B27 x
 ·simp
 by_cases hl:r.length=x.2.1.length
 ·have hl':((r.length:Int)=(x.2.1.length:Int))=True:=eq_true (by omega)
  simp only[zT,zA,hl',zI,hl,zG1]
  refine(B48 (fun c k=>B84 c (r.getD k C0w)) x.2.1 (fun j k=>B94 n j x.2.1 (x.2.1.length:Int) (k:Int) r) (some true) (fun j=>by simp only[B94,D2,zP,zH,zA]) (fun j k hk=>?_) x.2.1 n 0 rfl (by omega) (by omega)).trans ?_
  ·have hk2:k<r.length:=by omega
   simp only[B94,D2,zD hk,D1 hk,D1 hk2,zE,getD_at hk,zB,D3 hk (by omega),h2,zC,C71]
   exact B8j _ _
  ·cases B3a (fun c k=>B84 c (r.getD k C0w)) x.2.1 0<;>rfl
 ·have hl':¬(r.length:Int)=(x.2.1.length:Int):=by omega
  simp[hl,hl']
theorem C43:EV fun n=>∀(x:C1) (r:B2e),B2j 1048576 x→B27 x=true→C1q n x.1 x.2.1 x.2.2 r=some (B3r x.2.1 r):=(D48.and (EV.gt 1048576)).up fun n ⟨h2,hn⟩ x r hs ht=>by
 have lc:=hs.2.1.1
 obtain⟨_,hcol,_⟩:=B7h ht
 simp only[C1q,B4a,B3r]
 by_cases hl:r.length=x.2.1.length
 ·have hl':((r.length:Int)=(x.2.1.length:Int))=True:=eq_true (by omega)
  simp only[zT,zA,hl',zI,hl,zG1]
  refine(B48 (fun v k=>B84 (x.2.1.getD k CZ) v) r (fun j k=>B8y n j r (x.2.1.length:Int) (k:Int) x.1 x.2.1 x.2.2) (some true) (fun j=>by rw[hl];simp only[B8y,D2,zP,zH,zA]) (fun j k hk=>?_) r n 0 rfl (by omega) (by omega)).trans ?_
  ·have hk2:k<x.2.1.length:=by omega
   simp only[B8y,D2,zD hk2,D1 hk,D1 hk2,zE,getD_at hk,getD_at hk2,zB,D3 hk (by omega)]
   rw[h2 x.2.1[k] r[k] (by have:=E0v (hcol _ (zL hk2));omega)]
   exact B8j _ _
  ·have:B3a (fun v k=>B84 (x.2.1.getD k CZ) v) r 0=B3a (fun c k=>B84 c (r.getD k C0w)) x.2.1 0:=by
    rw[Bool.eq_iff_iff,B43,B43]
    constructor
    ·intro h i hi
     have:=h i (by omega)
     rw[zS,getD_at hi]at this
     rw[zS,getD_at (show i<r.length by omega)];exact this
    ·intro h i hi
     have:=h i (by omega)
     rw[zS,getD_at hi]at this
     rw[zS,getD_at (show i<x.2.1.length by omega)];exact this
   rw[this]
   cases B3a (fun c k=>B84 c (r.getD k C0w)) x.2.1 0<;>rfl
 ·have hl':¬(r.length:Int)=(x.2.1.length:Int):=by omega
  simp[hl,hl']
theorem B82:EV fun n=>∀(x:C1) (r:B2e),B2j 1048576 x→B27 x=true→r.length=x.2.1.length→B4w n x.1 x.2.1 x.2.2 r=some (D5 x.2.1 x.2.2 r):=(B91.and (EV.gt 1048576)).up fun n ⟨h1,hn⟩ x r hs ht hr=>by
 have lk:=hs.2.2.1
 obtain⟨hkey,_⟩:=B7h ht
 rw[B4w]
 refine(C33 x.2.2 (fun key=>r.getD (D4 x.2.1 key).toNat C0w) (fun j k s=>B81 n j x.2.2 (x.2.2.length:Int) (k:Int) x.1 x.2.1 x.2.2 r s) (fun j s=>by simp only[B81,D2,zP,zH,zA]) (fun j k s hk hsl=>?_) x.2.2 n 0 [] rfl (by omega) (by omega) rfl).trans (by simp[D5])
 obtain⟨k1,k2,k3⟩:=hkey _ (zL hk)
 have hroom:room (s.length+1) 32=true:=by simp[room];omega
 simp only[B81,D2,zD hk,D1 hk,zE,getD_at hk,zB,D3 hk (by omega),h1 _ _ _ _ hs.2.1.1,zC,C71,D3c k1 (show D4 x.2.1 x.2.2[k]<(r.length:Int)by omega),zW,zX,zS,hroom]
theorem C07:EV fun n=>∀(x:C1) (r:B2e),B2j 1048576 x→B27 x=true→r.length=x.2.1.length→B7l n x.1 x.2.1 x.2.2 r=some (D5 x.2.1 x.2.2 r):=(B8s.and (EV.gt 1048576)).up fun n ⟨h1,hn⟩ x r hs ht hr=>by
 have lk:=hs.2.2.1
 have h1:∀s,B2h n x.1 x.2.1 x.2.2 s=some (D4 x.2.1 s):=fun s=>h1 _ _ _ _ hs.2.1.1
 obtain⟨hkey,_⟩:=B7h ht
 rw[B7l]
 refine(C33 x.2.2 (fun key=>r.getD (D4 x.2.1 key).toNat C0w) (fun j k s=>B8x n j x.2.2 (x.2.2.length:Int) (k:Int) x.1 x.2.1 x.2.2 r s) (fun j s=>by simp only[B8x,D2,zP,zH,zA]) (fun j k s hk hsl=>?_) x.2.2 n 0 [] rfl (by omega) (by omega) rfl).trans (by simp[D5])
 obtain⟨k1,k2,k3⟩:=hkey _ (zL hk)
 have hroom:room (s.length+1) 32=true:=by simp[room];omega
 simp only[B8x,D2,zD hk,D1 hk,zE,getD_at hk,zB,D3 hk (by omega),h1,zC,C71,D3c k1 (show D4 x.2.1 x.2.2[k]<(r.length:Int)by omega),zW,zX,zS,hroom]
def B3g (x:C1)(l:A7d)(r:B3q)(k:Nat):Bool:=B3r x.2.1 r&&(decide (k=0)||B2x (D5 x.2.1 x.2.2 (l.getD (k - 1) [])) (D5 x.2.1 x.2.2 r))
def B2r (x:C1)(l:A7d):Bool:=B27 x&&decide (l.length≤60)&&B3a (B3g x l) l 0
theorem B4q {cs:B2g}{r:B2e}(h:B3r cs r=true):r.length=cs.length:=by
 simp only[B3r,zJ,zG]at h;exact h.1
theorem B3w {x:C1}{l:A7d}(h:B2r x l=true):B27 x=true∧l.length≤60∧∀r∈l,B3r x.2.1 r=true:=by
 simp only[B2r,zJ,zG]at h
 refine⟨h.1.1,h.1.2,fun r hr=>?_⟩
 obtain⟨i,hi,rfl⟩:=List.mem_iff_getElem.mp hr
 have:=(B43 _ _ _).mp h.2 i hi
 simp only[B3g,zJ]at this
 exact this.1
theorem B7v:EV fun n=>∀(x:C1) (l:A7d),B2j 1048576 x→l.length≤1048576→B77 n x.1 x.2.1 x.2.2 l=some (B2r x l):=(B8n.and (C22.and (B82.and (C2h.and (EV.gt 1048576))))).up fun n ⟨h1,h2,h3,h4,hn⟩ x l hs hl=>by
 simp only[B77,h1 x hs,zC,B2r]
 by_cases ht:B27 x=true
 ·simp only[ht,zT,zA,zG1]
  by_cases c:(60:Int)<(l.length:Int)
  ·rw[zD c,zK (show¬l.length≤60 by omega)];rfl
  ·rw[zK c,zD (show l.length≤60 by omega)]
   simp only[zA,zG1]
   refine(C40 (B3g x l) (fun k=>∀i,i<k→∀h:i<l.length,B3r x.2.1 l[i]=true) l (fun j k=>B6b n j l l (l.length:Int) (k:Int) x.1 x.2.1 x.2.2) (some true) (fun j=>by simp only[B6b,D2,zP,zH,zA]) (fun k hk hq hp i hi h=>?_) (fun j k hk hq=>?_) l n 0 rfl (by omega) (by omega) (fun i hi=>by omega)).trans ?_
   ·by_cases e:i<k
    ·exact hq i e h
    ·obtain rfl:i=k:=by omega
     simp only[B3g,zJ]at hp
     exact hp.1
   ·simp only[B6b,D2,zD hk,D1 hk,zE,getD_at hk,zB,D3 hk (by omega),h2 x l[k] hs,ht,zG1,zC]
    by_cases hr:B3r x.2.1 l[k]=true
    ·by_cases h0:k=0
     ·subst h0
      have:B3g x l l[0] 0=true:=by simp[B3g,hr]
      simp[hr,this]
     ·have hk1:k - 1<l.length:=by omega
      have e:B3g x l l[k] k=B2x (D5 x.2.1 x.2.2 l[k - 1]) (D5 x.2.1 x.2.2 l[k]):=by simp only[B3g,hr,zK h0,zG1,Bool.false_or,getD_at hk1]
      have hprev:=hq (k - 1) (by omega) hk1
      rw[zD (show(0:Int)<(k:Int)by omega),C75 (by omega) (by omega),D1 hk1,zE,hr,e,getD_at hk1,h3 x _ hs ht (B4q hprev),h3 x _ hs ht (B4q hr)]
      simp only[zB,zT,zA,zC]
      rw[h4 _ _ (by rw[B44];exact hs.2.2.1)]
      exact B8j _ _
    ·have:B3g x l l[k] k=false:=by simp[B3g,hr]
     simp[hr,this]
   ·cases B3a (B3g x l) l 0<;>rfl
 ·simp[ht]
theorem B9d:EV fun n=>∀(x:C1) (l:A7d),B2j 1048576 x→l.length≤1048576→B86 n x.1 x.2.1 x.2.2 l=some (B2r x l):=(C0f.and (C43.and (C07.and (C5e.and (EV.gt 1048576))))).up fun n ⟨h1,h2,h3,h4,hn⟩ x l hs hl=>by
 simp only[B86,h1 x hs,zC,B2r]
 by_cases ht:B27 x=true
 ·simp only[ht,zT,zA,zG1]
  by_cases c:(60:Int)<(l.length:Int)
  ·rw[zD c,zK (show¬l.length≤60 by omega)];rfl
  ·rw[zK c,zD (show l.length≤60 by omega)]
   simp only[zA,zG1]
   refine(C40 (B3g x l) (fun k=>∀i,i<k→∀h:i<l.length,B3r x.2.1 l[i]=true) l (fun j k=>B6a n j l l (l.length:Int) (k:Int) x.1 x.2.1 x.2.2) (some true) (fun j=>by simp only[B6a,D2,zP,zH,zA]) (fun k hk hq hp i hi h=>?_) (fun j k hk hq=>?_) l n 0 rfl (by omega) (by omega) (fun i hi=>by omega)).trans ?_
   ·by_cases e:i<k
    ·exact hq i e h
    ·obtain rfl:i=k:=by omega
     simp only[B3g,zJ]at hp
     exact hp.1
   ·simp only[B6a,D2,zD hk,D1 hk,zE,getD_at hk,zB,D3 hk (by omega),h2 x l[k] hs ht,zC]
    by_cases hr:B3r x.2.1 l[k]=true
    ·by_cases h0:k=0
     ·subst h0
      have:B3g x l l[0] 0=true:=by simp[B3g,hr]
      simp[hr,this]
     ·have hk1:k - 1<l.length:=by omega
      have e:B3g x l l[k] k=B2x (D5 x.2.1 x.2.2 l[k - 1]) (D5 x.2.1 x.2.2 l[k]):=by simp only[B3g,hr,zK h0,zG1,Bool.false_or,getD_at hk1]
      have hprev:=hq (k - 1) (by omega) hk1
      rw[zD (show(0:Int)<(k:Int)by omega),C75 (by omega) (by omega),D1 hk1,zE,hr,e,getD_at hk1,h3 x _ hs ht (B4q hprev),h3 x _ hs ht (B4q hr)]
      simp only[zB,zT,zA,zC]
      rw[h4 _ _ (by rw[B44];exact hs.2.2.1)]
      exact B8j _ _
    ·have:B3g x l l[k] k=false:=by simp[B3g,hr]
     simp[hr,this]
   ·cases B3a (B3g x l) l 0<;>rfl
 ·simp[ht]
def C2w (x:C1)(key:B2e):Bool:=B27 x&&decide (key.length=x.2.2.length)&&B3a (fun k i=>B84 (x.2.1.getD (D4 x.2.1 k).toNat CZ) (key.getD i C0w)) x.2.2 0
theorem C8s:EV fun n=>∀(x:C1) (key:B2e),B2j 1048576 x→C3c n x.1 x.2.1 x.2.2 key=some (C2w x key):=(B8n.and (C5k.and (B91.and (EV.gt 1048576)))).up fun n ⟨h1,h2,h3,hn⟩ x key hs=>by
 have lk:=hs.2.2.1
 simp only[C3c,h1 x hs,zC,B4a,C2w]
 by_cases ht:B27 x=true
 ·obtain⟨hkey,_⟩:=B7h ht
  by_cases hl:key.length=x.2.2.length
  ·have hl':((key.length:Int)=(x.2.2.length:Int))=True:=eq_true (by omega)
   simp only[zT,zA,hl',zI,hl,zG1,ht]
   refine(B48 (fun k i=>B84 (x.2.1.getD (D4 x.2.1 k).toNat CZ) (key.getD i C0w)) x.2.2 (fun j k=>B92 n j key x.2.2 (x.2.2.length:Int) (k:Int) x.1 x.2.1 x.2.2) (some true) (fun j=>by simp only[B92,D2,zP,zH,zA]) (fun j k hk=>?_) x.2.2 n 0 rfl (by omega) (by omega)).trans ?_
   ·have hk2:k<key.length:=by omega
    obtain⟨k1,k2,k3⟩:=hkey _ (zL hk)
    simp only[B92,D2,zD hk,D1 hk,D1 hk2,zE,getD_at hk,zB,D3 hk (by omega),h2,h3 _ _ _ _ hs.2.1.1,D3c k1 k2,zC,C71,E03]
    exact B8j _ _
   ·cases B3a (fun k i=>B84 (x.2.1.getD (D4 x.2.1 k).toNat CZ) (key.getD i C0w)) x.2.2 0<;>rfl
  ·have hl':¬(key.length:Int)=(x.2.2.length:Int):=by omega
   simp[hl,hl',ht]
 ·simp[ht]
theorem C8o:EV fun n=>∀(x:C1) (key:B2e),B2j 1048576 x→C32 n x.1 x.2.1 x.2.2 key=some (C2w x key):=(C0f.and (C06.and (B8s.and (EV.gt 1048576)))).up fun n ⟨h1,h2,h3,hn⟩ x key hs=>by
 have lk:=hs.2.2.1
 have h3:∀s,B2h n x.1 x.2.1 x.2.2 s=some (D4 x.2.1 s):=fun s=>h3 _ _ _ _ hs.2.1.1
 simp only[C32,h1 x hs,zC,B4a,C2w]
 by_cases ht:B27 x=true
 ·obtain⟨hkey,hcol,_⟩:=B7h ht
  by_cases hl:key.length=x.2.2.length
  ·have hl':((key.length:Int)=(x.2.2.length:Int))=True:=eq_true (by omega)
   simp only[zT,zA,hl',zI,hl,zG1,ht]
   refine(B48 (fun k i=>B84 (x.2.1.getD (D4 x.2.1 k).toNat CZ) (key.getD i C0w)) x.2.2 (fun j k=>B8v n j key x.2.2 (x.2.2.length:Int) (k:Int) x.1 x.2.1 x.2.2) (some true) (fun j=>by simp only[B8v,D2,zP,zH,zA]) (fun j k hk=>?_) x.2.2 n 0 rfl (by omega) (by omega)).trans ?_
   ·have hk2:k<key.length:=by omega
    obtain⟨k1,k2,k3⟩:=hkey _ (zL hk)
    have hin:(D4 x.2.1 x.2.2[k]).toNat<x.2.1.length:=by omega
    have hty:=E0v (hcol _ (zL hin))
    simp only[B8v,D2,zD hk,D1 hk,D1 hk2,zE,getD_at hk,getD_at hk2,zB,D3 hk (by omega),h2,h3,D3c k1 k2,zC,E03,B4a]
    rw[getD_at hin]at k3
    rw[getD_at hin]
    by_cases hv:B4i key[k].1 key[k].2.1 key[k].2.2=true
    ·by_cases h0:key[k].1=0
     ·have:¬(0:Int)=(x.2.1[(D4 x.2.1 x.2.2[k]).toNat]).2.1:=by omega
      have hf:B84 (x.2.1[(D4 x.2.1 x.2.2[k]).toNat]) key[k]=false:=by simp[B84,hv,h0,k3]
      rw[hf];simp[hv,h0,this]
     ·have hf:B84 (x.2.1[(D4 x.2.1 x.2.2[k]).toNat]) key[k]=decide (key[k].1=(x.2.1[(D4 x.2.1 x.2.2[k]).toNat]).2.1):=by simp[B84,hv,h0]
      rw[hf,hv];simp only[zT,zA];exact B8j _ _
    ·have hf:B84 (x.2.1[(D4 x.2.1 x.2.2[k]).toNat]) key[k]=false:=by simp[B84,hv]
     rw[hf];simp[hv]
   ·cases B3a (fun k i=>B84 (x.2.1.getD (D4 x.2.1 k).toNat CZ) (key.getD i C0w)) x.2.2 0<;>rfl
  ·have hl':¬(key.length:Int)=(x.2.2.length:Int):=by omega
   simp[hl,hl',ht]
 ·simp[ht]
theorem D7u {α:Type}(p:α→Bool):∀(l:List α) (k:Nat),decide ((0:Int)≤idxFrom p l k)=l.any p
 |[],_=>rfl
 |x::t,k=>by
  simp only[idxFrom,List.any_cons]
  by_cases h:p x=true
  ·simp[h]
  ·simp only[h,Bool.false_or];exact D7u p t (k+1)
def B3m (d:B2w):Bool:=B3c d.2.1&&(
 if d.1=1 then decide (d.2.2.2.2.1=E0)&&decide (d.2.2.2.2.2=E0)&&B27 (d.2.1,(d.2.2.1,d.2.2.2.1))else
 if d.1=2 then d.2.2.1.isEmpty&&d.2.2.2.1.isEmpty&&decide (d.2.2.2.2.1=E0)&&decide (d.2.2.2.2.2=E0)else
 if d.1=3 then(match d.2.2.1 with
  |[c]=>B67 c&&(c.2.2.2.1|| !c.2.2.1)&&d.2.2.2.1.isEmpty&&decide (d.2.2.2.2.1=E0)&&decide (d.2.2.2.2.2=E0)
  |_=>false)else
 if d.1=4 then d.2.2.1.isEmpty&&d.2.2.2.1.isEmpty&&B3c d.2.2.2.2.1&&decide (d.2.2.2.2.2=E0)else
 if d.1=5 then d.2.2.1.isEmpty&&d.2.2.2.1.isEmpty&&B3c d.2.2.2.2.1&&B3c d.2.2.2.2.2 else false)
theorem E0j {n:Nat}:inR (0:Int) (n+1)=true:=by simp[inR]
theorem C44:EV fun n=>∀d:B2w,C1r 1048576 d→C1t n d.1 d.2.1 d.2.2.1 d.2.2.2.1 d.2.2.2.2.1 d.2.2.2.2.2=some (B3m d):=(C1c.and (B8n.and C8r)).up fun n ⟨h1,h2,h3⟩ d hs=>by
 obtain⟨k,tb,cs,ks,nm,to⟩:=d
 obtain⟨s1,s2,s3,s4,s5⟩:=hs
 have e2:=h2 (tb,cs,ks) ⟨s1,s2,s3⟩
 simp only at s1 s2 s3 s4 s5 e2
 simp only[C1t,h1 tb s1,h1 nm s4,h1 to s5,e2,B41,B2z,zC,B3m]
 have hk:((ks.length:Int)=0)=(ks.isEmpty=true):=by cases ks<;>simp<;>omega
 have hc:((cs.length:Int)=0)=(cs.isEmpty=true):=by cases cs<;>simp<;>omega
 simp only[hk,hc]
 generalize ks.isEmpty=b1
 change _=some (B3c tb&&(if k=1 then decide (nm=E0)&&decide (to=E0)&&B27 (tb,cs,ks)else _))
 generalize decide (nm=(⟨#[]⟩:ByteArray))=b2
 generalize decide (to=(⟨#[]⟩:ByteArray))=b3
 cases B3c tb
 ·rfl
 by_cases k1:k=1
 ·subst k1
  rcases cs with _|⟨c,t⟩<;>cases b2<;>cases b3<;>simp
 by_cases k2:k=2
 ·subst k2
  rcases cs with _|⟨c,t⟩<;>cases b1<;>cases b2<;>simp
 by_cases k3:k=3
 ·subst k3
  rcases cs with _|⟨c,_|⟨d,t⟩⟩
  ·simp
  ·have e3:=h3 c (s2.2 c (by simp))
   simp[e3,inR]
   cases B67 c<;>cases c.2.2.2.1<;>cases c.2.2.1<;>cases b1<;>cases b2<;>simp
  ·have:¬((t.length:Int)+1+1=1):=by omega
   simp[this]
 by_cases k4:k=4
 ·subst k4
  rcases cs with _|⟨c,t⟩<;>cases b1<;>cases B3c nm<;>simp
 by_cases k5:k=5
 ·subst k5
  rcases cs with _|⟨c,t⟩<;>cases b1<;>cases B3c nm<;>simp
 rcases cs with _|⟨c,t⟩<;>simp[k1,k2,k3,k4,k5]
theorem D0p:EV fun n=>∀l:List ByteArray,l.length≤1048576→C17 n l=some l:=EV.true.up fun n _ l hl=>by
 have hroom:room l.length 16=true:=by simp[room];omega
 simp only[C17,hroom,zB]
theorem C3m:EV fun n=>∀x:C1,B2j 1048576 x→B9e n x.1 x.2.1 x.2.2=some x:=D0p.up fun n h x hs=>by
 have hl:x.2.1.length≤1048576:=hs.2.1.1
 have hroom:room x.2.1.length 64=true:=by simp[room];omega
 have hroom2:room x.2.1.length 72=true:=by simp[room];omega
 have hroom3:room x.2.1.length 80=true:=by simp[room];omega
 simp only[B9e,hroom,zB,h _ hs.2.2.1,zC]
theorem C4i:EV fun n=>∀d:B2w,C1r 1048576 d→B8u n d.1 d.2.1 d.2.2.1 d.2.2.2.1 d.2.2.2.2.1 d.2.2.2.2.2=some (d.2.1,(d.2.2.1,d.2.2.2.1)):=C3m.up fun n h d hs=>by
 have:=h (d.2.1,(d.2.2.1,d.2.2.2.1)) ⟨hs.1,hs.2.1,hs.2.2.1⟩
 simp only at this
 simp only[B8u,this,zC]
theorem C4k:EV fun n=>∀d e:B2w,C1r 1048576 d→B5z n d.1 d.2.1 d.2.2.1 d.2.2.2.1 d.2.2.2.2.1 d.2.2.2.2.2 e.1 e.2.1 e.2.2.1 e.2.2.2.1 e.2.2.2.2.1 e.2.2.2.2.2=some (decide (d=e)):=(C93.and C94).up fun n ⟨h1,h2⟩ d e hs=>by
 obtain⟨k,tb,cs,ks,nm,to⟩:=d;obtain⟨k',tb',cs',ks',nm',to'⟩:=e
 have e1:=h1 cs cs' hs.2.1.1
 have e2:=h2 ks ks' hs.2.2.1.1
 simp only[B5z,e1,e2,B41,B2z,zC]
 by_cases a1:k=k'<;>by_cases a2:tb=tb'<;>by_cases a3:cs=cs'<;>by_cases a4:ks=ks'<;>by_cases a5:nm=nm'<;>by_cases a6:to=to'<;>simp[a1,a2,a3,a4,a5,a6]
theorem C41:EV fun n=>∀d:B2w,C1r 1048576 d→C1p n d.1 d.2.1 d.2.2.1 d.2.2.2.1 d.2.2.2.2.1 d.2.2.2.2.2=some (B3m d):=(C13.and (C0f.and (C8n.and (C4i.and C4k)))).up fun n ⟨h1,h2,h3,h4,h5⟩ d hs=>by
 obtain⟨k,tb,cs,ks,nm,to⟩:=d
 have e4:=h4 _ hs
 have e5:=fun cs' ks' nm' to'=>h5 (k,tb,cs,ks,nm,to) (k,tb,cs',ks',nm',to') hs
 obtain⟨s1,s2,s3,s4,s5⟩:=hs
 have e2:=h2 (tb,cs,ks) ⟨s1,s2,s3⟩
 simp only at s1 s2 s3 s4 s5 e2 e4 e5
 simp only[C1p,h1 tb s1,h1 nm s4,h1 to s5,e2,e4,e5,B41,B2z,zC,B3m,zR,true_and]
 cases B3c tb
 ·rfl
 by_cases k1:k=1
 ·subst k1
  cases B27 (tb,cs,ks)<;>by_cases a5:nm=E0<;>by_cases a6:to=E0<;>simp[a5,a6]
 have ec:∀{α:Type} (l:List α),l.isEmpty=decide (l=[]):=fun l=>by cases l<;>rfl
 rw[ec cs,ec ks]
 by_cases k2:k=2
 ·subst k2
  by_cases a3:cs=[]<;>by_cases a4:ks=[]<;>by_cases a5:nm=E0<;>by_cases a6:to=E0<;>simp[a3,a4,a5,a6]
 by_cases k3:k=3
 ·subst k3
  rcases cs with _|⟨c,_|⟨d,t⟩⟩
  ·simp
  ·have e3:=h3 c (s2.2 c (by simp))
   simp[e3,inR]
   cases B67 c<;>cases c.2.2.2.1<;>cases c.2.2.1<;>by_cases a4:ks=[]<;>by_cases a5:nm=E0<;>by_cases a6:to=E0<;>simp[a4,a5,a6]
  ·have:¬((t.length:Int)+1+1=1):=by omega
   simp[this]
 by_cases k4:k=4
 ·subst k4
  by_cases a3:cs=[]<;>by_cases a4:ks=[]<;>by_cases a6:to=E0<;>cases B3c nm<;>simp[a3,a4,a6]
 by_cases k5:k=5
 ·subst k5
  by_cases a3:cs=[]<;>by_cases a4:ks=[]<;>cases B3c nm<;>simp[a3,a4]
 simp[k1,k2,k3,k4,k5]
def vOk (v:B6p):Bool:=B4i v.1 v.2.1 v.2.2
def C2l (l:B2e):Bool:=decide (1≤l.length∧l.length≤8)&&l.all vOk
def C8p:B2w:=(0,(E0,([],([],(E0,E0)))))
def B89 (s:B32):Bool:=
 if s.1=5 then B3m s.2.2.2.2&&decide (s.2.1=s.2.2.2.2.2.1)&&decide (s.2.2.1=[])&&decide (s.2.2.2.1=[])else
 B3c s.2.1&&decide (s.2.2.2.2=C8p)&&(if s.1=1 then decide (s.2.2.1=[])&&C2l s.2.2.2.1 else if s.1=2 then C2l s.2.2.1&&C2l s.2.2.2.1 else
  if s.1=3 then C2l s.2.2.1&&decide (s.2.2.2.1=[])else if s.1=4 then decide (s.2.2.1=[])&&decide (s.2.2.2.1=[])else false)
theorem E2j {α:Type}(l:List α):decide ((l.length:Int)=0)=l.isEmpty:=by cases l<;>simp;omega
theorem D45 {α:Type} [DecidableEq α](l:List α):l.isEmpty=decide (l=[]):=by cases l<;>rfl
theorem E0y {d:B2w}(h:B3m d=true):B3c d.2.1=true:=by
 simp only[B3m,zJ]at h;exact h.1
theorem D2y:EV fun n=>∀l:B2e,l.length≤1048576→B8g n l=some (C2l l):=(C23.and (EV.gt 1048576)).up fun n ⟨h,hn⟩ l hl=>by
 rw[B8g]
 refine(D8t vOk l (fun j k=>B70 n j l l (l.length:Int) (k:Int)) (some (decide (1≤l.length∧l.length≤8))) (fun j=>?_) (fun j k hk=>?_) l n 0 rfl (by omega) (by omega)).trans ?_
 ·simp only[B70,D2,zP,zH,zA]
  by_cases c:(1:Int)≤(l.length:Int)
  ·rw[zD c,zB];congr 1;exact decide_eq_decide.mpr (by omega)
  ·rw[zK c,zA];congr 1;exact(zK (by omega)).symm
 ·simp only[B70,D2,zD hk,D1 hk,zE,getD_at hk,zB,D3 hk (by omega),h,zC]
  exact B8j _ _
 ·simp only[C2l];cases l.all vOk<;>simp
theorem D1x:EV fun n=>∀d:B2w,B7n n d.1 d.2.1 d.2.2.1 d.2.2.2.1 d.2.2.2.2.1 d.2.2.2.2.2=some (decide (d=C8p)):=EV.true.up fun n _ d=>by
 obtain⟨k,tb,cs,ks,nm,to⟩:=d
 simp only[B7n,B41,B2z,E2j,D45,C8p,zR]
 by_cases a1:k=0<;>by_cases a2:tb=E0<;>by_cases a3:cs=[]<;>by_cases a4:ks=[]<;>by_cases a5:nm=E0<;>by_cases a6:to=E0<;>simp[a1,a2,a3,a4,a5,a6]
theorem D4i:EV fun n=>∀s:B32,B99 1048576 s→C3q n s.1 s.2.1 s.2.2.1 s.2.2.2.1 s.2.2.2.2.1 s.2.2.2.2.2.1 s.2.2.2.2.2.2.1 s.2.2.2.2.2.2.2.1 s.2.2.2.2.2.2.2.2.1 s.2.2.2.2.2.2.2.2.2=some (B89 s):=
 (C1c.and (D2y.and (D1x.and C44))).up fun n ⟨h1,h2,h3,h4⟩ s hs=>by
 obtain⟨k,tb,key,row,d⟩:=s
 obtain⟨s1,s2,s3,s4⟩:=hs
 have e1:=h1 tb s1
 have e2:=h2 key s2.1
 have e3:=h2 row s3.1
 have e4:=h3 d
 have e5:=h4 d s4
 simp only[C3q,e1,e2,e3,e4,e5,B41,B2z,E2j,D45,zC,B89]
 by_cases k5:k=5
 ·subst k5
  cases hd:B3m d
  ·cases B3c tb<;>by_cases a3:key=[]<;>by_cases a4:row=[]<;>simp[a3,a4]
  ·have hw:=E0y hd
   by_cases a:tb=d.2.1
   ·rw[a,hw]
    by_cases a3:key=[]<;>by_cases a4:row=[]<;>simp[a3,a4]
   ·have a':¬d.2.1=tb:=fun e=>a e.symm
    cases B3c tb<;>by_cases a3:key=[]<;>by_cases a4:row=[]<;>simp[a3,a4,a,a']
 ·simp only[if_neg k5]
  cases B3c tb
  ·simp
  by_cases k1:k=1
  ·subst k1;by_cases a3:key=[]<;>cases C2l row<;>simp[a3]
  by_cases k2:k=2
  ·subst k2;cases C2l key<;>cases C2l row<;>simp
  by_cases k3:k=3
  ·subst k3;by_cases a4:row=[]<;>cases C2l key<;>simp[a4]
  by_cases k4:k=4
  ·subst k4;by_cases a3:key=[]<;>by_cases a4:row=[]<;>simp[a3,a4]
  simp[k1,k2,k3,k4,k5]
theorem D2u:EV fun n=>∀l:B2e,l.length≤1048576→B8d n l=some (C2l l):=
 (C4q.and ((((C06.up (q:=fun n=>∀a b s,C14 n a b s=some (!B4i a b s)) fun n h a b s=>by simp only[C14,h,zC]).and (EV.gt 1048576)).up
  (q:=fun n=>∀l:B2e,l.length≤1048576→B2p n l=some (idx (fun v=> !vOk v) l)) (fun n ⟨h,hn⟩ l hl=>by
  rw[B2p]
  refine B8r (fun v=> !vOk v) l (fun j k=>B2a n j l (l.length:Int) (k:Int)) (fun j=>by simp only[B2a,D2,zP,zH,zA]) (fun j k hk=>?_) l n 0 rfl (by omega) (by omega)
  simp only[B2a,D2,zD hk,D1 hk,zE,getD_at hk,zB,D3 hk (by omega),h,zC]
  exact B8q _ _)).up (q:=fun n=>∀l:B2e,l.length≤1048576→B2l n l=some (l.any fun v=> !vOk v)) (fun n h l hl=>by
   simp only[B2l,h l hl,zC,idx,D7u]))).up fun n ⟨h1,h2⟩ l hl=>by
 simp only[B8d,h1,h2 l hl,zC,C2l]
 rw[show decide ((1:Int)≤(l.length:Int)∧(l.length:Int)≤8)=decide (1≤l.length∧l.length≤8)from decide_eq_decide.mpr (by omega)]
 have:(!l.any fun v=> !vOk v)=l.all vOk:=by
  induction l with
  |nil=>rfl
  |cons a t ih=>simp only[List.any_cons,List.all_cons,Bool.not_or,Bool.not_not];rw[ih (by simp at hl;omega)]
 rw[this]
 cases decide (1≤l.length∧l.length≤8)<;>simp
theorem D47:EV fun n=>∀s:B32,B99 1048576 s→C3l n s.1 s.2.1 s.2.2.1 s.2.2.2.1 s.2.2.2.2.1 s.2.2.2.2.2.1 s.2.2.2.2.2.2.1 s.2.2.2.2.2.2.2.1 s.2.2.2.2.2.2.2.2.1 s.2.2.2.2.2.2.2.2.2=some (B89 s):=
 (C13.and (D2u.and (C4k.and C41))).up fun n ⟨h1,h2,h3,h4⟩ s hs=>by
 obtain⟨k,tb,key,row,d⟩:=s
 obtain⟨s1,s2,s3,s4⟩:=hs
 have e1:=h1 tb s1
 have e2:=h2 key s2.1
 have e3:=h2 row s3.1
 have e4:=h3 d C8p s4
 have e5:=h4 d s4
 simp only[C8p]at e4
 simp only[C3l,e1,e2,e3,e5,B41,B2z,E2j,D45,zC,B89]
 by_cases k5:k=5
 ·subst k5
  cases B3m d<;>by_cases a:tb=d.2.1<;>by_cases a3:key=[]<;>by_cases a4:row=[]<;>simp[a3,a4,a]
 ·rw[e4]
  simp only[if_neg k5,zC,zK k5,zA,C8p]
  cases B3c tb
  ·simp
  by_cases hb:d=(0,(E0,([],([],(E0,E0)))))
  ·simp only[hb,zI,zT,zA,zG1]
   by_cases k1:k=1
   ·subst k1;by_cases a3:key=[]<;>cases C2l row<;>simp[a3]
   by_cases k2:k=2
   ·subst k2;cases C2l key<;>cases C2l row<;>simp
   by_cases k3:k=3
   ·subst k3;by_cases a4:row=[]<;>cases C2l key<;>simp[a4]
   by_cases k4:k=4
   ·subst k4;by_cases a3:key=[]<;>by_cases a4:row=[]<;>simp[a3,a4]
   simp[k1,k2,k3,k4]
  ·simp[hb]
def D1n (x:C1)(l:A7d)(key:B2e):Int:=if B2r x l=true then idx (fun r=>decide (D5 x.2.1 x.2.2 r=key)) l else -1
theorem C45:EV fun n=>∀(x:C1) (l:A7d) (key:B2e),B2j 1048576 x→l.length≤1048576→C0i n x.1 x.2.1 x.2.2 l key=some (D1n x l key):=(B7v.and (B82.and (C7o.and (EV.gt 1048576)))).up fun n ⟨h1,h2,h3,hn⟩ x l key hs hl=>by
 simp only[C0i,h1 x l hs hl,zC,D1n]
 by_cases hr:B2r x l=true
 ·obtain⟨ht,_,hin⟩:=B3w hr
  simp only[hr,zT,zA,if_true]
  refine B8r (fun r=>decide (D5 x.2.1 x.2.2 r=key)) l (fun j k=>B93 n j key l (l.length:Int) (k:Int) x.1 x.2.1 x.2.2) (fun j=>by simp only[B93,D2,zP,zH,zA]) (fun j k hk=>?_) l n 0 rfl (by omega) (by omega)
  have hk2:=B4q (hin _ (zL hk))
  simp only[B93,D2,zD hk,D1 hk,zE,getD_at hk,zB,D3 hk (by omega),h2 x _ hs ht hk2,zC]
  rw[h3 _ _ (by rw[B44];exact hs.2.2.1)]
  exact B8q _ _
 ·simp[hr]
theorem C42:EV fun n=>∀(x:C1) (l:A7d) (key:B2e),B2j 1048576 x→l.length≤1048576→B27 x=true→(∀r∈l,r.length=x.2.1.length)→B7m n x.1 x.2.1 x.2.2 l key=some (idx (fun r=>decide (D5 x.2.1 x.2.2 r=key)) l):=
 (((C07.and C37).up (q:=fun n=>∀(x:C1) (r key:B2e),B2j 1048576 x→B27 x=true→r.length=x.2.1.length→C2p n r x key=some (decide (D5 x.2.1 x.2.2 r=key))) fun n ⟨h1,h2⟩ x r key hs ht hr=>by
  simp only[C2p,h1 x r hs ht hr,zC]
  rw[h2 _ _ (by rw[B44];exact hs.2.2.1)];rfl).and (EV.gt 1048576)).up
  (q:=fun n=>∀(x:C1) (l:A7d) (key:B2e),B2j 1048576 x→l.length≤1048576→B27 x=true→(∀r∈l,r.length=x.2.1.length)→B2t n l x key=some (idx (fun r=>decide (D5 x.2.1 x.2.2 r=key)) l)) (fun n ⟨h,hn⟩ x l key hs hl ht hr=>by
  rw[B2t]
  refine B8r (fun r=>decide (D5 x.2.1 x.2.2 r=key)) l (fun j k=>B2d n j l x key (l.length:Int) (k:Int)) (fun j=>by simp only[B2d,D2,zP,zH,zA]) (fun j k hk=>?_) l n 0 rfl (by omega) (by omega)
  simp only[B2d,D2,zD hk,D1 hk,zE,getD_at hk,zB,D3 hk (by omega),h x _ key hs ht (hr _ (zL hk)),zC]
  exact B8q _ _)|>.up fun n h x l key hs hl ht hr=>by
   have:=h x l key hs hl ht hr
   simp only[B7m]
   rw[show(x.1,(x.2.1,x.2.2))=x from rfl,this];rfl
def B68 (d:B7j):Bool:=B5r d.1&&decide (d.2.length=d.1.length)&&B3a (fun t k=>B2r t (d.2.getD k [])) d.1 0
def total (d:B6l):Nat:=(d.map List.length).sum
theorem C0l {α:Type}{p:α→Nat→Bool}{l:List α}(h:B3a p l 0=true){i:Nat}(hi:i<l.length):p l[i] i=true:=by
 have:=(B43 p l 0).mp h i hi
 rwa[zS]at this
theorem B9o {l:B25}(h:B5r l=true):l.length≤6∧∀t∈l,B27 t=true:=by
 simp only[B5r,zJ,zG]at h
 refine⟨h.1,fun t ht=>?_⟩
 obtain⟨i,hi,rfl⟩:=List.mem_iff_getElem.mp ht
 have:=C0l h.2 hi
 simp only[B3u,zJ]at this
 exact this.1
theorem B69 {d:B7j}(h:B68 d=true):B5r d.1=true∧d.2.length=d.1.length∧∀i (h1:i<d.1.length) (h2:i<d.2.length),B2r d.1[i] d.2[i]=true:=by
 simp only[B68,zJ,zG]at h
 refine⟨h.1.1,h.1.2,fun i h1 h2=>?_⟩
 have:=C0l h.2 h1
 rwa[getD_at h2]at this
theorem D7y:EV fun n=>∀d:B7j,C1o 1048576 d→C76 n d.1 d.2=some (B68 d):=(C8q.and (B7v.and (EV.gt 1048576))).up fun n ⟨h1,h2,hn⟩ d hs=>by
 have lc:d.1.length≤1048576:=hs.1.1
 simp only[C76,h1 d.1 hs.1,zC,B68,B4a]
 cases B5r d.1
 ·simp
 by_cases hl:d.2.length=d.1.length
 ·have hl':((d.2.length:Int)=(d.1.length:Int))=True:=eq_true (by omega)
  simp only[zT,zA,hl',zI,hl,zG1]
  refine(B48 (fun t k=>B2r t (d.2.getD k [])) d.1 (fun j k=>B9t n j d.1 (d.1.length:Int) (k:Int) d.1 d.2) (some true) (fun j=>by simp only[B9t,D2,zP,zH,zA]) (fun j k hk=>?_) d.1 n 0 rfl (by omega) (by omega)).trans ?_
  ·have hk2:k<d.2.length:=by omega
   simp only[B9t,D2,zD hk,D1 hk,D1 hk2,zE,getD_at hk,getD_at hk2,zB,D3 hk (by omega),h2 d.1[k] d.2[k] (hs.1.2 _ (zL hk)) (hs.2.2 _ (zL hk2)).1,zC]
   exact B8j _ _
  ·cases B3a (fun t k=>B2r t (d.2.getD k [])) d.1 0<;>rfl
 ·have hl':¬(d.2.length:Int)=(d.1.length:Int):=by omega
  simp[hl,hl']
theorem C4y:EV fun n=>∀d:B7j,C1o 1048576 d→B9r n d.1 d.2=some (B68 d):=(C8m.and (B9d.and (EV.gt 1048576))).up fun n ⟨h1,h2,hn⟩ d hs=>by
 have lc:d.1.length≤1048576:=hs.1.1
 simp only[B9r,h1 d.1 hs.1,zC,B68,B4a]
 cases B5r d.1
 ·simp
 by_cases hl:d.2.length=d.1.length
 ·have hl':((d.2.length:Int)=(d.1.length:Int))=True:=eq_true (by omega)
  simp only[zT,zA,hl',zI,hl,zG1]
  refine(B48 (fun t k=>B2r t (d.2.getD k [])) d.1 (fun j k=>B9s n j d.1 (d.1.length:Int) (k:Int) d.1 d.2) (some true) (fun j=>by simp only[B9s,D2,zP,zH,zA]) (fun j k hk=>?_) d.1 n 0 rfl (by omega) (by omega)).trans ?_
  ·have hk2:k<d.2.length:=by omega
   simp only[B9s,D2,zD hk,D1 hk,D1 hk2,zE,getD_at hk,getD_at hk2,zB,D3 hk (by omega),h2 d.1[k] d.2[k] (hs.1.2 _ (zL hk)) (hs.2.2 _ (zL hk2)).1,zC]
   exact B8j _ _
  ·cases B3a (fun t k=>B2r t (d.2.getD k [])) d.1 0<;>rfl
 ·have hl':¬(d.2.length:Int)=(d.1.length:Int):=by omega
  simp[hl,hl']
def D7q (d:B7j):Int:=if B68 d=true then(total d.2:Int)else -1
theorem E2p {d:B6l}{b:Nat}(h:∀r∈d,r.length≤b):total d≤d.length*b:=by
 unfold total
 induction d with
 |nil=>simp
 |cons a t ih=>
  simp only[List.map_cons,List.sum_cons,zW,zD1,Nat.one_mul]
  have:=ih fun r hr=>h r (zF _ hr)
  have:=h a (zM ..)
  omega
theorem D5y:EV fun n=>∀d:B7j,C1o 1048576 d→C30 n d.1 d.2=some (D7q d):=(C4y.and (EV.gt 1048576)).up fun n ⟨h1,hn⟩ d hs=>by
 simp only[C30,h1 d hs,zC,D7q]
 by_cases hd:B68 d=true
 ·obtain⟨hc,hl,hr⟩:=B69 hd
  have hc6:=(B9o hc).1
  simp only[hd,zT,zA,if_true]
  have key:∀(t:B6l) (j k:Nat) (s:Nat),d.2.drop k=t→k≤d.2.length→t.length<j→s≤k*60→B8t n j (s:Int) d.2 (d.2.length:Int) (k:Int)=some ((s+total t:Nat):Int):=by
   intro t
   induction t with
   |nil=>
    intro j k s hdr hk hj hsl
    obtain⟨j,rfl⟩:∃i,j=i+1:=⟨j - 1,by simp at hj;omega⟩
    have:k=d.2.length:=by
     rcases zE1 k d.2.length with h'|h'
     ·rw[zC1 h']at hdr;cases hdr
     ·omega
    subst this
    simp only[B8t,D2,zP,zH,zA];rfl
   |cons a t ih=>
    intro j k s hdr hk hj hsl
    obtain⟨j,rfl⟩:∃i,j=i+1:=⟨j - 1,by simp at hj;omega⟩
    obtain⟨h2,h3,h4⟩:=B3d hdr a
    rw[getD_at h2]at h3
    have h60:a.length≤60:=by rw[←h3];exact(B3w (hr k (by omega) h2)).2.1
    simp only[B8t,D2,zD h2,D1 h2,zE,getD_at h2,h3,zB,D3 h2 (by omega)]
    rw[wrap64 (by omega) (by omega),show(s:Int)+(a.length:Int)=((s+a.length:Nat):Int)by omega,ih j (k+1) (s+a.length) h4 (by omega) (by simp at hj;omega) (by omega)]
    congr 2;simp only[total,List.map_cons,List.sum_cons];omega
  have:=key d.2 n 0 0 rfl (by omega) (by omega) (by omega)
  rw[zS]at this
  exact this
 ·simp[hd]
def dig (d:Int):ByteArray:=strOfNums [48+d]
def E2h:Nat→Int→ByteArray
 |0,_=>E0
 |f+1,a=>if a<10 then dig a else E2h f (a / 10)++dig (a % 10)
def E30:ByteArray:=⟨#[45]⟩
def E0r (a:Int):ByteArray:=if -1099511627775≤a∧a≤1099511627775 then(if a<0 then E30++E2h 14 (-a)else E2h 14 a)else E0
def E34:ByteArray:=⟨#[48,49,50,51,52,53,54,55,56,57,97,98,99,100,101,102]⟩
def E2z (k:Nat):Int:=bt E34 (k:Int)
abbrev E2l (b:UInt8):Prop:=33≤b.toNat∧b.toNat≤126∧b.toNat≠39∧b.toNat≠37
def E2m (b:UInt8):List Int:=if E2l b then [(b.toNat:Int)]else [37,E2z (b.toNat / 16),E2z (b.toNat % 16)]
def E1q:List UInt8→List Int
 |[]=>[]
 |b::t=>E2m b++E1q t
def E2e (s:ByteArray):ByteArray:=strOfNums ([39]++E1q s.data.toList++[39])
def E26:ByteArray:=⟨#[110,117,108,108]⟩
def E25 (b:Int):ByteArray:=if b=1 then⟨#[116,114,117,101]⟩else⟨#[102,97,108,115,101]⟩
def E0u (x:B6p):ByteArray:=if B4i x.1 x.2.1 x.2.2=true then(if x.1=0 then E26 else if x.1=1 then E25 x.2.1 else if x.1=2 then E0r x.2.1 else E2e x.2.2)else E0
def E31:ByteArray:=⟨#[32]⟩
def E2b:Nat→ByteArray→List ByteArray→ByteArray
 |_,acc,[]=>acc
 |k,acc,t::r=>E2b (k+1) (if 0<k then acc++E31++t else acc++t) r
def E2v (l:List ByteArray):ByteArray:=E2b 0 E0 l
theorem D76 (l:List Int):(strOfNums l).size=l.length:=by
 show(strOfNums l).data.size=_
 simp[strOfNums]
def tyL:List ByteArray:=[⟨#[]⟩,⟨#[98,111,111,108]⟩,⟨#[105,110,116]⟩,⟨#[116,101,120,116]⟩]
def tyN (a:Int):ByteArray:=tyL.getD a.toNat E0
def E29 (c:B4n):List ByteArray:=[c.1,tyN c.2.1]++(if c.2.2.1=true then [⟨#[110,111,116]⟩]else [])++(if c.2.2.2.1=true then [⟨#[61]⟩++E0u c.2.2.2.2]else [])
def E0w:B2g→List ByteArray
 |[]=>[]
 |c::t=>[⟨#[40]⟩]++E29 c++[⟨#[41]⟩]++E0w t
def E32:List ByteArray:=[⟨#[]⟩,⟨#[99,114,101,97,116,101]⟩,⟨#[100,114,111,112]⟩,⟨#[97,100,100]⟩,⟨#[111,117,116]⟩,⟨#[110,97,109,101]⟩]
def E2w (d:B2w):List ByteArray:=[E32.getD d.1.toNat E0,d.2.1]++(if d.1=1 then E0w d.2.2.1++[⟨#[107,101,121]⟩]++d.2.2.2.1 else if d.1=3 then(match d.2.2.1 with
 |c::_=>E29 c
 |[]=>[])else if d.1=4 then [d.2.2.2.2.1]else if d.1=5 then [d.2.2.2.2.1,d.2.2.2.2.2]else [])
def E0p (d:B2w):ByteArray:=if B3m d=true then E2v (E2w d)else E0
theorem C4v {d:B2w}(h:B3m d=true):d.1=1∨d.1=2∨d.1=3∨d.1=4∨d.1=5:=by
 simp only[B3m,zJ]at h
 have h2:=h.2
 by_cases c1:d.1=1
 ·exact Or.inl c1
 ·by_cases c2:d.1=2
  ·exact Or.inr (Or.inl c2)
  ·by_cases c3:d.1=3
   ·exact Or.inr (Or.inr (Or.inl c3))
   ·by_cases c4:d.1=4
    ·exact Or.inr (Or.inr (Or.inr (Or.inl c4)))
    ·by_cases c5:d.1=5
     ·exact Or.inr (Or.inr (Or.inr (Or.inr c5)))
     ·rw[if_neg c1,if_neg c2,if_neg c3,if_neg c4,if_neg c5]at h2;cases h2
theorem E1v {d:B2w}(h:B3m d=true)(k:d.1=1):B27 (d.2.1,(d.2.2.1,d.2.2.2.1))=true:=by
 simp only[B3m,zJ]at h
 have h2:=h.2
 rw[if_pos k]at h2
 simp only[zJ]at h2;exact h2.2
theorem C2m {d:B2w}(h:B3m d=true)(k:d.1=3):∃c,d.2.2.1=[c]∧B67 c=true:=by
 simp only[B3m,zJ]at h
 have h2:=h.2
 rw[if_neg (by omega),if_neg (by omega),if_pos k]at h2
 cases e:d.2.2.1 with
 |nil=>rw[e]at h2;cases h2
 |cons c t=>
  cases t with
  |nil=>rw[e]at h2;simp only[zJ]at h2;exact⟨c,rfl,h2.1.1.1.1⟩
  |cons=>rw[e]at h2;cases h2
theorem D8m {x:C1}(h:B27 x=true):x.2.2≠[]:=by
 simp only[B27,zJ,zG]at h
 have:=h.1.1.2
 intro e;rw[e]at this;simp at this
theorem C6n {d:B7j}(h:B68 d=true):d.2.length=d.1.length∧d.1.length≤6:=by
 simp only[B68,zJ,zG]at h
 exact⟨h.1.2,(B9o h.1.1).1⟩
def E2d (x:C1)(r:B2e):B2e:=if(B27 x&&B3r x.2.1 r)=true then D5 x.2.1 x.2.2 r else []
theorem D5z:EV fun n=>∀(x:C1) (r:B2e),B2j 1048576 x→C4z n x.1 x.2.1 x.2.2 r=some (E2d x r):=(C22.and B82).up fun n ⟨h1,h2⟩ x r hs=>by
 simp only[C4z,h1 x r hs,zC,E2d]
 cases h:(B27 x&&B3r x.2.1 r)
 ·rfl
 ·simp only[zJ]at h
  simp[h2 x r hs h.1 (B4q h.2)]
theorem C46:EV fun n=>∀(l:B25) (s:ByteArray),l.length≤1048576→C1u n l s=some (idx (fun t=>decide (t.1=s)) l):=(EV.gt 1048577).up fun n hn l s hl=>by
 rw[C1u]
 refine B8r (fun t=>decide (t.1=s)) l (fun j k=>B95 n j s l (l.length:Int) (k:Int)) (fun j=>?_) (fun j k hk=>?_) l n 0 rfl (by omega) (by omega)
 ·simp only[B95,D2,zP,zH,zA]
 ·simp only[B95,D2,zD hk,D1 hk,zE,getD_at hk,zB,D3 hk (by omega),B41]
  exact B8q _ _
theorem C4o:EV fun n=>∀x:C1,B2j 1048576 x→C0b n x.1 x.2.1 x.2.2=some x:=EV.true.up fun n _ x hs=>by
 have h1:=hs.2.1.1
 have h2:=hs.2.2.1
 have r1:room (([]:B2g).length+x.2.1.length) 64=true:=by simp only[room,zG,zX];omega
 have r2:room (([]:List ByteArray).length+x.2.2.length) 16=true:=by simp only[room,zG,zX];omega
 simp only[C0b,r1,r2,zB,List.nil_append]
theorem C10:EV fun n=>∀(l:B25) (s:ByteArray),l.length≤1048576→B85 n l s=some (idx (fun t=>decide (t.1=s)) l):=by
 have h0:EV fun n=>∀(l:B25) (s:ByteArray),l.length≤1048576→B2m n l s=some (idx (fun t=>decide (t.1=s)) l):=(((EV.gt 0).up (q:=fun n=>∀(t:C1) (s:ByteArray),C1x n t.1 t.2.1 t.2.2 s=some (decide (t.1=s))) fun n _ t s=>by simp only[C1x,B41]).and (EV.gt 1048577)).up fun n ⟨h,hn⟩ l s hl=>by
  rw[B2m]
  refine B8r (fun t=>decide (t.1=s)) l (fun j k=>B28 n j l s (l.length:Int) (k:Int)) (fun j=>?_) (fun j k hk=>?_) l n 0 rfl (by omega) (by omega)
  ·simp only[B28,D2,zP,zH,zA]
  ·simp only[B28,D2,zD hk,D1 hk,zE,getD_at hk,zB,D3 hk (by omega),h,zC]
   exact B8q _ _
 exact h0.up fun n h l s hl=>by simp only[B85,h l s hl,zC]
def C19:C1:=(E0,([],[]))
theorem C3f:EV fun n=>∀r:B2e,r.length≤1048576→B62 n r=some r:=EV.true.up fun n _ r hr=>by
 have r1:room r.length 32=true:=by simp only[room,zG];omega
 have r2:room (([]:B2e).length+r.length) 32=true:=by simp only[room,zG,zX];omega
 simp[B62,r1]
theorem C5j:EV fun n=>∀l:A7d,B34 1048576 l→B9v n l=some l:=(C3f.and (EV.gt 1048577)).up fun n ⟨h,hn⟩ l hs=>by
 have hl:=hs.1
 simp only[B9v]
 refine(C33 l id (fun j k acc=>B6w n j l (l.length:Int) (k:Int) acc) (fun j acc=>?_) (fun j k acc hk ha=>?_) l n 0 [] rfl (by omega) (by omega) rfl).trans (by simp)
 ·simp only[B6w,D2,zP,zH,zA]
 ·have e:=h l[k] (hs.2 _ (zL hk)).1
  have r3:∀x:B2e,room (acc.length+[x].length) 24=true:=fun x=>by simp only[room,zG,zW,zX];omega
  simp only[B6w,D2,zD hk,D1 hk,zE,getD_at hk,zB,D3 hk (by omega),e,zC,r3,id]
theorem C4j:EV fun n=>∀r:B2e,r.length≤1048576→B8w n r=some r:=EV.true.up fun n _ r hr=>by
 have r1:room r.length 32=true:=by simp only[room,zG];omega
 have r2:room (([]:B2e).length+r.length) 32=true:=by simp only[room,zG,zX];omega
 simp[B8w,r1]
theorem B7t:EV fun n=>∀l:A7d,B34 1048576 l→B47 n l=some l:=(C4j.and (EV.gt 1048577)).up fun n ⟨h,hn⟩ l hs=>by
 have hl:=hs.1
 simp only[B47]
 refine(C33 l id (fun j k acc=>B64 n j l (l.length:Int) (k:Int) acc) (fun j acc=>?_) (fun j k acc hk ha=>?_) l n 0 [] rfl (by omega) (by omega) rfl).trans (by simp)
 ·simp only[B64,D2,zP,zH,zA]
 ·have e:=h l[k] (hs.2 _ (zL hk)).1
  have r3:∀x:B2e,room (acc.length+[x].length) 24=true:=fun x=>by simp only[room,zG,zW,zX];omega
  simp only[B64,D2,zD hk,D1 hk,zE,getD_at hk,zB,D3 hk (by omega),e,zC,r3,id]
theorem D9a {cs:B2g}:∀{ks:B2f} {last:Int},(runs (B3s cs) ks last).isSome=true→ -1≤last→last<(cs.length:Int)→last+(ks.length:Int)<(cs.length:Int)
 |[],last,_,_,h=>by simpa using h
 |x::t,last,h,hl,h2=>by
  simp only[runs,B3s]at h
  split at h
  ·rename_i hc
   have i2:D4 cs x<(cs.length:Int):=(C0z _ _).2
   have:=D9a (ks:=t) (last:=D4 cs x) h (by omega) i2
   simp only[zW]
   omega
  ·simp at h
theorem E1o {x:C1}(h:B27 x=true):x.2.2.length≤8∧x.2.1.length≤8:=by
 simp only[B27,zJ,zG]at h
 obtain⟨⟨⟨⟨_,h1⟩,h2⟩,_⟩,h3⟩:=h
 have:=D9a h3 (by omega) (by omega)
 omega
def D9m (ws:List ByteArray):Prop:=ws.length≤1048577∧∀w∈ws,w.size≤1048576
theorem D9m.sm {ws:List ByteArray}(h:D9m ws):C95 1048577 ws:=⟨h.1,fun w hw=>by have:=h.2 w hw;omega⟩
theorem D9m.drop {ws:List ByteArray}(h:D9m ws)(i:Nat):D9m (ws.drop i):=⟨by have:=h.1;simp;omega,fun w hw=>h.2 w (List.mem_of_mem_drop hw)⟩
theorem D9m.take {ws:List ByteArray}(h:D9m ws)(i:Nat):D9m (ws.take i):=⟨by have:=h.1;simp;omega,fun w hw=>h.2 w (List.mem_of_mem_take hw)⟩
theorem C4h {α:Type}(p:α→Bool):∀(t:List α) (k:Nat),(idxFrom p t k= -1∧idxFrom p t 0= -1)∨∃m:Nat,m<t.length∧idxFrom p t 0=(m:Int)∧idxFrom p t k=((k+m:Nat):Int)
 |[],k=> .inl ⟨rfl,rfl⟩
 |x::t,k=>by
  simp only[idxFrom]
  by_cases h:p x=true
  ·right;exact⟨0,by simp,by simp[h],by simp[h]⟩
  ·simp only[if_neg h]
   rcases C4h p t (k+1)with⟨a,_⟩|⟨m,a,b,c⟩
   ·left
    refine⟨a,?_⟩
    rcases C4h p t 1 with⟨d,_⟩|⟨m,d,e,_⟩
    ·exact d
    ·rcases C4h p t (k+1)with⟨_,g⟩|⟨m',_,_,g⟩
     ·rw[e]at g;omega
     ·rw[a]at g;omega
   ·right
    refine⟨m+1,by simp;omega,?_,by rw[c];omega⟩
    rcases C4h p t 1 with⟨_,d⟩|⟨m',_,d,e⟩
    ·rw[b]at d;omega
    ·rw[b]at d;rw[e];omega
theorem D90 {α:Type}{p:α→Bool}{x:α}{t:List α}(h:p x=false):idx p (x::t)=idxFrom p t 1:=by simp[idx,idxFrom,h]
def fin (d:B2w)(s:ByteArray):B2w×(Bool×Unit):=if E0p d=s then(d,(true,()))else(C8p,(false,()))
def B2q {α:Type}(b:List Int)(P:α→Prop)(r:Option (α×(((List Int)×(Int×Int))×Unit))):Prop:=∃x i h,r=some (x,((b,(i,h)),()))∧0≤i∧P x
theorem E0o (a b:Int):0≤IntKind.wrap .i64 ((BitVec.ofInt (IntKind.bits .i64) a&&&BitVec.ofInt (IntKind.bits .i64) (255:Int)).toNat:Int)∧IntKind.wrap .i64 ((BitVec.ofInt (IntKind.bits .i64) a&&&BitVec.ofInt (IntKind.bits .i64) (255:Int)).toNat:Int)≤255:=by
 have h:(BitVec.ofInt (IntKind.bits .i64) a&&&BitVec.ofInt (IntKind.bits .i64) (255:Int)).toNat≤255:=by
  rw[BitVec.toNat_and]
  exact Nat.and_le_right
 rw[wrap64 (by omega) (by omega)]
 omega
theorem E00:EV fun n=>∀(b:List Int) (i h:Int),b.length≤1048576→0≤i→B2q b (fun x:Int=>0≤x∧x≤255) (B5t n b i h):=EV.true.up fun n _ b i h hb hi=>by
 simp only[B5t,show decide (0≤(33:Int))=true from rfl,show decide (0≤(45:Int))=true from rfl,zB]
 by_cases hl:i<b.length
 ·have e1:decide (i<(b.length:Int))=true:=zD hl
  obtain⟨k,rfl⟩:=Int.eq_ofNat_of_zero_le hi
  have e2:inR (k:Int) b.length=true:=D1 (by omega)
  simp only[e1,e2,zB]
  refine⟨_,_,_,rfl,?_,E0o _ 0⟩
  rw[D3 (n:=b.length) (by omega) (by omega)];omega
 ·have e1:decide (i<(b.length:Int))=false:=zK hl
  simp only[e1,zA]
  exact⟨_,_,_,rfl,hi,E0o _ 0⟩
theorem B4o:EV fun n=>∀(b:List Int) (i h m:Int),b.length≤1048576→0≤i→m≤4294967296→B2q b (fun x:Int=>(0<m→0≤x∧x<m)∧(m≤0→x=0)) (D0 n b i h m):=E00.up fun n hB b i h m hb hi hm=>by
 rw[D0]
 by_cases h0:m≤0
 ·simp only[zD h0,zB]
  exact⟨_,_,_,rfl,hi,by omega,by omega⟩
 ·simp only[zK h0,zA]
  have hz:(!decide (m=0))=true:=by simp;omega
  by_cases h1:m≤256
  ·obtain⟨x,i1,g1,e1,p1,q1⟩:=hB b i h hb hi
   simp only[zD h1,zB,e1,zC,hz]
   refine⟨_,_,_,rfl,p1,fun _=>?_,by omega⟩
   rw[Int.tmod_eq_emod_of_nonneg q1.1]
   exact⟨Int.emod_nonneg _ (by omega),Int.emod_lt_of_pos _ (by omega)⟩
  ·obtain⟨x,i1,g1,e1,p1,q1⟩:=hB b i h hb hi
   obtain⟨y,i2,g2,e2,p2,q2⟩:=hB b i1 g1 hb p1
   obtain⟨z,i3,g3,e3,p3,q3⟩:=hB b i2 g2 hb p2
   obtain⟨w,i4,g4,e4,p4,q4⟩:=hB b i3 g3 hb p3
   simp only[zK h1,zA,zB,e1,e2,e3,e4,zC,hz]
   refine⟨_,_,_,rfl,p4,fun _=>?_,by omega⟩
   rw[wrap64 (x:=x*16777216) (by omega) (by omega),wrap64 (x:=y*65536) (by omega) (by omega),wrap64 (x:=z*256) (by omega) (by omega),wrap64 (x:=x*16777216+y*65536) (by omega) (by omega),wrap64 (x:=x*16777216+y*65536+z*256) (by omega) (by omega),wrap64 (x:=x*16777216+y*65536+z*256+w) (by omega) (by omega)]
   rw[Int.tmod_eq_emod_of_nonneg (by omega)]
   exact⟨Int.emod_nonneg _ (by omega),Int.emod_lt_of_pos _ (by omega)⟩
def D49 (x:Int):Prop:= -9223372036854775808≤x∧x≤9223372036854775807
theorem E2n:EV fun n=>∀(b:List Int) (i h:Int),b.length≤1048576→0≤i→B2q b D49 (C0s n b i h):=B4o.up fun n hB b i h hb hi=>by
 obtain⟨k,i1,g1,e1,p1,q1,_⟩:=hB b i h 9 hb hi (by omega)
 have q1:=q1 (by omega)
 simp only[C0s,e1,zC,B2z]
 have one:∀m:Int,0<m→m≤4294967296→∃x i2 g2,D0 n b i1 g1 m=some (x,((b,(i2,g2)),()))∧0≤i2∧0≤x∧x<m:=fun m h0 h1=>by
  obtain⟨x,i2,g2,e2,p2,q2,_⟩:=hB b i1 g1 m hb p1 h1
  exact⟨x,i2,g2,e2,p2,(q2 h0).1,(q2 h0).2⟩
 by_cases c1:k<4
 ·obtain⟨x,i2,g2,e2,p2,q2,r2⟩:=one 24 (by decide) (by decide)
  simp only[zD c1,zB,e2,zC]
  refine⟨_,_,_,rfl,p2,?_⟩
  rw[wrap64 (by omega) (by omega)];unfold D49;omega
 ·simp only[zK c1,zA]
  by_cases c2:k=4
  ·obtain⟨x,i2,g2,e2,p2,q2,r2⟩:=one 3 (by decide) (by decide)
   simp only[zD c2,zB,e2,zC]
   refine⟨_,_,_,rfl,p2,?_⟩
   rw[wrap64 (by omega) (by omega)];unfold D49;omega
  ·simp only[zK c2,zA]
   by_cases c3:k=5
   ·obtain⟨x,i2,g2,e2,p2,q2,r2⟩:=one 3 (by decide) (by decide)
    simp only[zD c3,zB,e2,zC]
    refine⟨_,_,_,rfl,p2,?_⟩
    rw[wrap64 (by omega) (by omega)];unfold D49;omega
   ·simp only[zK c3,zA]
    by_cases c4:k=6
    ·obtain⟨x,i2,g2,e2,p2,q2,r2⟩:=one 2 (by decide) (by decide)
     simp only[zD c4,zB,e2,zC]
     refine⟨_,_,_,rfl,p2,?_⟩
     rw[wrap64 (by omega) (by omega)];unfold D49;omega
    ·simp only[zK c4,zA]
     by_cases c5:k=7
     ·obtain⟨x,i2,g2,e2,p2,q2,r2⟩:=one 2 (by decide) (by decide)
      simp only[zD c5,zB,e2,zC]
      refine⟨_,_,_,rfl,p2,?_⟩
      rw[wrap64 (by omega) (by omega)];unfold D49;omega
     ·obtain⟨x,i2,g2,e2,p2,q2,r2⟩:=one 2000000 (by decide) (by decide)
      simp only[zK c5,zA,e2,zC]
      exact⟨_,_,_,rfl,p2,by unfold D49;omega⟩
theorem E2k:EV fun n=>∀(b:List Int),b.length≤1048576→∃h,C3r n b=some ((b,(0,h)),()):=(EV.gt 1048578).up fun n hn b hb=>by
 rw[C3r]
 have:∀(t:List Int) (j k:Nat) (h:Int),b.drop k=t→k≤b.length→t.length<j→∃g,B7x n j b h (k:Int)=some ((b,(0,g)),()):=by
  intro t
  induction t with
  |nil=>
   intro j k h hd hk hj
   obtain⟨j,rfl⟩:∃j',j=j'+1:=⟨j - 1,by omega⟩
   have:k=b.length:=by have:=congrArg List.length hd;simp at this;omega
   subst this
   simp only[B7x,D2,zP,zH,zA]
   exact⟨_,rfl⟩
  |cons x t ih=>
   intro j k h hd hk hj
   obtain⟨j,rfl⟩:∃j',j=j'+1:=⟨j - 1,by omega⟩
   obtain⟨h2,h3,h4⟩:=B3d hd x
   rw[B7x]
   simp only[D2,zD h2,zB]
   by_cases c:(k:Int)<4000
   ·simp only[zD c,D1 h2,zB,D3 h2 (by omega)]
    exact ih j (k+1) _ h4 (by omega) (by simp at hj;omega)
   ·simp only[zK c,zA]
    exact⟨_,rfl⟩
 exact this b n 0 _ rfl (by omega) (by omega)
theorem D9r:EV fun n=>∀(b:List Int) (i h:Int),b.length≤1048576→0≤i→B2q b (fun s:ByteArray=>s.size≤30) (C3t n b i h):=(E00.and (B4o.and (EV.gt 100))).up fun n ⟨hB,hW,hn⟩ b i h hb hi=>by
 obtain⟨k,i1,g1,e1,p1,q1,_⟩:=hW b i h 10 hb hi (by omega)
 have q1:=q1 (by omega)
 obtain⟨k,rfl⟩:=Int.eq_ofNat_of_zero_le q1.1
 simp only[C3t,e1,zC,B2z]
 by_cases c1:(k:Int)<7
 ·have hk:k<7:=by omega
  simp only[zD c1,zB,D1 (k:=k) (n:=[(⟨#[]⟩:ByteArray),(⟨#[97]⟩:ByteArray),(⟨#[98]⟩:ByteArray),(⟨#[97,98]⟩:ByteArray),(⟨#[116,114,117,101]⟩:ByteArray),(⟨#[102,97,108,115,101]⟩:ByteArray),(⟨#[49,50]⟩:ByteArray)].length) hk]
  refine⟨_,_,_,rfl,p1,?_⟩
  rw[zE]
  have:∀k:Fin 7,([(⟨#[]⟩:ByteArray),(⟨#[97]⟩:ByteArray),(⟨#[98]⟩:ByteArray),(⟨#[97,98]⟩:ByteArray),(⟨#[116,114,117,101]⟩:ByteArray),(⟨#[102,97,108,115,101]⟩:ByteArray),(⟨#[49,50]⟩:ByteArray)].getD k.val (⟨#[]⟩:ByteArray)).size≤30:=by decide
  exact this ⟨k,hk⟩
 ·simp only[zK c1,zA]
  by_cases c2:(k:Int)=7
  ·simp only[zD c2,zB]
   exact⟨_,_,_,rfl,p1,by decide⟩
  ·simp only[zK c2,zA]
   obtain⟨m,i2,g2,e2,p2,q2,_⟩:=hW b i1 g1 31 hb p1 (by omega)
   have q2:=q2 (by omega)
   obtain⟨m,rfl⟩:=Int.eq_ofNat_of_zero_le q2.1
   simp only[e2,zC]
   have loop:∀(t j x:Nat) (i g:Int) (acc:List Int),x+t=m→t<j→acc.length=x→0≤i→B2q b (fun s:ByteArray=>s.size≤30) (B7y n j (m:Int) (x:Int) b i g acc):=by
    intro t
    induction t with
    |zero=>
     intro j x i g acc hx hj ha hi
     obtain⟨j,rfl⟩:∃j',j=j'+1:=⟨j - 1,by omega⟩
     have:decide ((x:Int)<(m:Int))=false:=zK (by omega)
     simp only[B7y,this,zA]
     exact⟨_,_,_,rfl,hi,show(strOfNums acc).size≤30 by rw[D76];omega⟩
    |succ t ih=>
     intro j x i g acc hx hj ha hi
     obtain⟨j,rfl⟩:∃j',j=j'+1:=⟨j - 1,by omega⟩
     have e0:decide ((x:Int)<(m:Int))=true:=zD (by omega)
     obtain⟨y,i3,g3,e3,p3,q3⟩:=hB b i g hb hi
     have hr:room (acc.length+[IntKind.wrap .u8 y].length) 1=true:=by simp[room];omega
     simp only[B7y,e0,zB,e3,zC,hr,D3 (show x<m by omega) (by omega)]
     exact ih j (x+1) i3 g3 _ (by omega) (by omega) (by simp;omega) p3
   exact loop m n 0 i2 g2 [] (by omega) (by omega) rfl p2
theorem D1o:EV fun n=>∀(b:List Int) (i h ty:Int),b.length≤1048576→0≤i→B2q b (fun v:B6p=>v.2.2.size≤31) (C0k n b i h ty):=(D9r.and B4o).up fun n ⟨hS,hW⟩ b i h ty hb hi=>by
 obtain⟨k,i1,g1,e1,p1,_⟩:=hW b i h 8 hb hi (by omega)
 simp only[C0k,e1,zC,B2z]
 by_cases c0:k=0
 ·simp only[zD c0,zB]
  exact⟨_,_,_,rfl,p1,by decide⟩
 ·simp only[zK c0,zA]
  by_cases c1:ty=1
  ·obtain⟨x,i2,g2,e2,p2,_⟩:=hW b i1 g1 2 hb p1 (by omega)
   simp only[zD c1,zB,e2,zC]
   exact⟨_,_,_,rfl,p2,show E0.size≤31 by decide⟩
  ·simp only[zK c1,zA]
   by_cases c2:ty=2
   ·obtain⟨x,i2,g2,e2,p2,_⟩:=hW b i1 g1 12 hb p1 (by omega)
    simp only[zD c2,zB,e2,zC]
    exact⟨_,_,_,rfl,p2,show E0.size≤31 by decide⟩
   ·simp only[zK c2,zA]
    by_cases c3:ty=3
    ·obtain⟨x,i2,g2,e2,p2,q2⟩:=hS b i1 g1 hb p1
     simp only[zD c3,zB,e2,zC]
     exact⟨_,_,_,rfl,p2,Nat.le_trans q2 (by decide)⟩
    ·simp only[zK c3,zA]
     exact⟨_,_,_,rfl,p1,by decide⟩
theorem D44:EV fun n=>∀(b:List Int) (i h:Int),b.length≤1048576→0≤i→B2q b (fun v:B6p=>v.2.2.size≤31) (C2a n b i h):=(D1o.and B4o).up fun n ⟨hS,hW⟩ b i h hb hi=>by
 obtain⟨k,i1,g1,e1,p1,_⟩:=hW b i h 4 hb hi (by omega)
 obtain⟨v,i2,g2,e2,p2,q2⟩:=hS b i1 g1 k hb p1
 simp only[C2a,e1,e2,zC]
 exact⟨_,_,_,rfl,p2,q2⟩
theorem C8x:EV fun n=>∀(b:List Int) (i h:Int),b.length≤1048576→0≤i→B2q b (fun v:B6p=>v.2.2.size≤31) (B4u n b i h):=(D44.and (B4o.and E2n)).up fun n ⟨hV,hW,hR⟩ b i h hb hi=>by
 obtain⟨v,i1,g1,e1,p1,q1⟩:=hV b i h hb hi
 obtain⟨k,i2,g2,e2,p2,_⟩:=hW b i1 g1 12 hb p1 (by omega)
 simp only[B4u,e1,e2,zC,B2z]
 by_cases c0:k=0
 ·obtain⟨x,i3,g3,e3,p3,_⟩:=hR b i2 g2 hb p2
  subst c0
  simp only[show decide ((0:Int)=0)=true from rfl,show decide ((0:Int)=1)=false from rfl,show decide ((0:Int)=2)=false from rfl,zB,zA,e3,zC]
  exact⟨_,_,_,rfl,p3,q1⟩
 ·simp only[zK c0,zA]
  by_cases c1:k=1
  ·obtain⟨x,i3,g3,e3,p3,_⟩:=hR b i2 g2 hb p2
   subst c1
   simp only[show decide ((1:Int)=1)=true from rfl,show decide ((1:Int)=2)=false from rfl,zB,zA,e3,zC]
   exact⟨_,_,_,rfl,p3,q1⟩
  ·simp only[zK c1,zA]
   by_cases c2:k=2
   ·obtain⟨x,i3,g3,e3,p3,q3,_⟩:=hW b i2 g2 2 hb p2 (by omega)
    have q3:=q3 (by omega)
    have w:IntKind.wrap .i64 ((30:Int)+x)=30+x:=wrap64 (by omega) (by omega)
    have hr:(decide (True∧0≤30+x)&&room (30+x).toNat 1)=true:=by simp[room];omega
    simp only[zD c2,zB,e3,zC,w,hr]
    refine⟨_,_,_,rfl,p3,?_⟩
    show(strOfNums _).size≤31
    rw[D76,List.length_replicate];omega
   ·simp only[zK c2,zA]
    exact⟨_,_,_,rfl,p2,q1⟩
theorem C1w:∀x y:List UInt8,(Op.bytesLess x y&&Op.bytesLess y x)=false∧(Op.bytesLess x y||Op.bytesLess y x)= !decide (x=y)
 |[],[]=>by simp[Op.bytesLess]
 |[],b::y=>by simp[Op.bytesLess]
 |a::x,[]=>by simp[Op.bytesLess]
 |a::x,b::y=>by
  obtain⟨h1,h2⟩:=C1w x y
  simp only[Op.bytesLess]
  by_cases h:a=b
  ·subst h
   simp only[show(a<a)=False from eq_false (UInt8.lt_irrefl a),zH,Bool.false_or,BEq.rfl,zG1,h1,h2,List.cons.injEq,true_and]
  ·have hn:¬b=a:=fun e=>h e.symm
   have e1:(a==b)=false:=by simp[h]
   have e2:(b==a)=false:=by simp[hn]
   simp only[e1,e2,Bool.false_and,Bool.or_false,List.cons.injEq,h,false_and,zH,zU]
   rcases UInt8.lt_or_lt_of_ne h with g|g
   ·have:¬b<a:=UInt8.lt_asymm g
    simp[g,this]
   ·have:¬a<b:=UInt8.lt_asymm g
    simp[g,this]
theorem D95 {x y:B6p}(hx:B4i x.1 x.2.1 x.2.2=true)(hy:B4i y.1 y.2.1 y.2.2=true):(B73 x y&&B73 y x)=false∧(B73 x y||B73 y x)= !decide (x=y):=by
 obtain⟨a,b,s⟩:=x;obtain⟨c,d,t⟩:=y
 simp only[B73,hx,hy,zG1]
 by_cases h1:a=c
 ·subst h1
  by_cases h2:b=d
  ·subst h2
   simp only[if_true]
   obtain⟨g1,g2⟩:=C1w s.toList t.toList
   refine⟨g1,?_⟩
   rw[g2]
   simp[D5d]
  ·simp only[if_true,if_neg h2,if_neg (fun e:d=b=>h2 e.symm)]
   have:¬((a,(b,s)):B6p)=(a,(d,t)):=by simp[h2]
   rw[zK this]
   by_cases h3:b<d
   ·simp[h3];omega
   ·have:d<b:=by omega
    simp[h3,this]
 ·simp only[if_neg h1,if_neg (fun e:c=a=>h1 e.symm)]
  have:¬((a,(b,s)):B6p)=(c,(d,t)):=by simp[h1]
  rw[zK this]
  by_cases h3:a<c
  ·simp[h3];omega
  ·have:c<a:=by omega
   simp[h3,this]
def has (l:List Int)(x:Int):Bool:=l.any fun y=>decide (y=x)
def B7p {α S:Type}(f:Nat→α→S→S):Nat→List α→S→S
 |_,[],s=>s
 |k,x::t,s=>B7p f (k+1) t (f k x s)
theorem B8a {α S T:Type}(l:List α)(f:Nat→α→S→S)(L:Nat→Nat→S→T)(R:S→T)(Inv:Nat→S→Prop)(hinv:∀k (h:k<l.length) s,Inv k s→Inv (k+1) (f k l[k] s))
  (hexit:∀j s,Inv l.length s→L (j+1) l.length s=R s) (hstep:∀j k s (h:k<l.length),Inv k s→L (j+1) k s=L j (k+1) (f k l[k] s)):
  ∀(t:List α) (j k:Nat) (s:S),l.drop k=t→k≤l.length→t.length<j→Inv k s→L j k s=R (B7p f k t s)
 |[],j+1,k,s,hd,hk,_,hs=>by
  have:k=l.length:=by
   rcases zE1 k l.length with h'|h'
   ·rw[zC1 h']at hd;cases hd
   ·omega
  subst this;rw[hexit _ _ hs];rfl
 |x::t,j+1,k,s,hd,hk,hj,hs=>by
  obtain⟨h2,h3,h4⟩:=B3d hd x
  have hx:l[k]=x:=by simpa[List.getD,h2]using h3
  rw[hstep j k s h2 hs,B8a l f L R Inv hinv hexit hstep t j (k+1) _ h4 (by omega) (by simp at hj;omega) (hinv k h2 s hs)]
  simp only[B7p,hx]
theorem C8z {α:Type}(i:Nat):∀(t:List α) (k:Nat) (acc:List α),k≤i→B7p (fun k x (s:List α)=>if k=i then s else s++[x]) k t acc=acc++(t.take (i - k)++t.drop (i - k+1))
 |[],k,acc,_=>by simp[B7p]
 |x::t,k,acc,h=>by
  by_cases e:k=i
  ·subst e
   simp only[B7p,if_true,Nat.sub_self,List.take_zero,List.nil_append,List.drop_succ_cons,List.drop_zero]
   have:∀(t:List α) (q:Nat) (acc:List α),k<q→B7p (fun j x (s:List α)=>if j=k then s else s++[x]) q t acc=acc++t:=by
    intro t
    induction t with
    |nil=>intro q acc _;simp[B7p]
    |cons y t ih=>intro q acc hq;simp only[B7p,if_neg (show¬q=k by omega)];rw[ih _ _ (by omega)];simp
   exact this t _ acc (by omega)
  ·simp only[B7p,if_neg e]
   rw[C8z i t (k+1) _ (by omega)]
   obtain⟨d,hd⟩:∃d,i - k=d+1:=⟨i - k - 1,by omega⟩
   rw[hd,show i - (k+1)=d by omega]
   simp
theorem E0i {α:Type}(i:Nat):∀(k:Nat) (x:α) (s:List α),(if k=i then s else s++[x]).length≤s.length+1:=by
 intro k x s;split<;>simp
def B2b {α:Type}(l:List α)(i:Nat):List α:=l.take i++l.drop (i+1)
theorem C0v {α:Type}{l:List α}{i:Nat}{x:α}(h:x∈B2b l i):x∈l:=by
 rcases zY.mp h with h|h
 ·exact List.mem_of_mem_take h
 ·exact List.mem_of_mem_drop h
theorem C0u {α:Type}(l:List α)(i:Nat):(B2b l i).length≤l.length:=by simp[B2b];omega
theorem C3g:EV fun n=>∀(l:A7d) (i:Nat),B34 1048576 l→B8o n l (i:Int)=some (B2b l i):=(C3f.and (EV.gt 1048577)).up fun n ⟨h,hn⟩ l i hs=>by
 have hl:=hs.1
 simp only[B8o]
 refine(B8a l (fun k x (s:A7d)=>if k=i then s else s++[x]) (fun j k acc=>B42 n j (i:Int) l (l.length:Int) (k:Int) acc) some (fun k s=>s.length≤k) (fun k hk s h1=>?_) (fun j acc _=>?_) (fun j k acc hk ha=>?_) l n 0 [] rfl (by omega) (by omega) (Nat.le_refl 0)).trans ?_
 ·exact Nat.le_trans (E0i i k l[k] s) (by omega)
 ·simp only[B42,D2,zP,zH,zA]
 ·have e:=h l[k] (hs.2 _ (zL hk)).1
  have r3:∀x:B2e,room (acc.length+[x].length) 24=true:=fun x=>by simp only[room,zG,zW,zX];omega
  simp only[B42,D2,zD hk,D1 hk,zE,getD_at hk,zB,D3 hk (by omega),e,zC,r3,B4a]
  by_cases c:k=i
  ·rw[if_pos c,zD (by omega)];rfl
  ·rw[if_neg c,zK (by omega)];rfl
 ·rw[C8z i l 0 [] (Nat.zero_le _)];rfl
theorem E0z {α:Type}{l:List α}{i:Nat}(h:i<l.length):B1f l (i:Int) ((i+1:Nat):Int)=some (B2b l i):=by
 unfold B1f
 rw[zD (by omega)];rfl
def C0c (x:C1)(l:A7d)(key:B2e):A7d×(Int×Unit):=
 if B2r x l=true then(if C2w x key=true∧0≤idx (fun r=>decide (D5 x.2.1 x.2.2 r=key)) l then(B2b l (idx (fun r=>decide (D5 x.2.1 x.2.2 r=key)) l).toNat,(0,()))else([],(5,())))else([],(1,()))
theorem C3d:EV fun n=>∀(x:C1) (l:A7d) (key:B2e),B2j 1048576 x→B34 1048576 l→C28 n x.1 x.2.1 x.2.2 l key=some (C0c x l key):=(B7v.and (C45.and (C8s.and C3g))).up fun n ⟨h1,h2,h3,h4⟩ x l key hs hl=>by
 simp only[C28,h1 x l hs hl.1,h2 x l key hs hl.1,h3 x key hs,zC,C0c,D1n]
 cases hr:B2r x l
 ·simp
 simp only[zT,zA,if_true]
 cases hk:C2w x key
 ·simp
 obtain⟨b1,b2⟩:=C0z (fun r:B3q=>decide (D5 x.2.1 x.2.2 r=key)) l
 generalize idx (fun r:B3q=>decide (D5 x.2.1 x.2.2 r=key)) l=i at b1 b2
 by_cases c:i<0
 ·rw[zD c,if_neg (fun h=>absurd h.2 (by omega))];rfl
 ·obtain⟨i,rfl⟩:=Int.eq_ofNat_of_zero_le (show 0≤i by omega)
  rw[zK c,if_pos ⟨rfl,by omega⟩]
  simp only[zT,zA,h4 l i hl,zC,zE]
theorem B6u {x:C1}{l:A7d}(h:B2r x l=true):∀r∈l,r.length=x.2.1.length:=fun r hr=>B4q ((B3w h).2.2 r hr)
theorem C6p:EV fun n=>∀(x:C1) (l:A7d) (key:B2e),B2j 1048576 x→B34 1048576 l→C0m n x.1 x.2.1 x.2.2 l key=some (C0c x l key):=(B9d.and (C42.and (C8o.and (B7t.and (EV.gt 0))))).up fun n ⟨h1,h2,h3,h4,hn⟩ x l key hs hl=>by
 obtain⟨m,rfl⟩:∃m,n=m+1:=⟨n - 1,by omega⟩
 simp only[C0m,h1 x l hs hl.1,h3 x key hs,zC,C0c]
 cases hr:B2r x l
 ·simp
 simp only[zT,zA,if_true,h2 x l key hs hl.1 (B3w hr).1 (B6u hr),zC,h4 l hl,B30]
 cases hk:C2w x key
 ·simp
 obtain⟨b1,b2⟩:=C0z (fun r:B3q=>decide (D5 x.2.1 x.2.2 r=key)) l
 generalize idx (fun r:B3q=>decide (D5 x.2.1 x.2.2 r=key)) l=i at b1 b2
 have:=hl.1
 by_cases c:i<0
 ·rw[zD c,if_neg (fun h=>absurd h.2 (by omega))];rfl
 ·obtain⟨i,rfl⟩:=Int.eq_ofNat_of_zero_le (show 0≤i by omega)
  rw[zK c,if_pos ⟨rfl,by omega⟩]
  have hi:i<l.length:=by omega
  simp only[zT,zA,zC,zE,D3 hi (by omega),E0z hi]
theorem B4l:B34 1048576 []:=⟨Nat.zero_le _,by simp⟩
theorem C3a {l:A7d}{i:Nat}(h:B34 1048576 l):B34 1048576 (B2b l i):=⟨Nat.le_trans (C0u l i) h.1,fun r hr=>h.2 r (C0v hr)⟩
theorem D9b:EV fun n=>∀(x0:C1) (x1:A7d) (x2:B2e),B2j 1048576 x0→B34 1048576 x1→D3f 1048576 x2→∃r,C28 n x0.1 x0.2.1 x0.2.2 x1 x2=some r∧C0m n x0.1 x0.2.1 x0.2.2 x1 x2=some r∧B34 1048576 r.1:=
 (C3d.and C6p).mono fun n ⟨h1,h2⟩ x l key hx hl _=>⟨_,h1 x l key hx hl,h2 x l key hx hl,by
  unfold C0c
  split
  ·split
   ·exact C3a hl
   ·exact B4l
  ·exact B4l⟩
theorem C2g:∀{x y z:List UInt8},Op.bytesLess x y=true→Op.bytesLess y z=true→Op.bytesLess x z=true
 |_,[],_,h,_=>by cases ‹List UInt8›<;>simp[Op.bytesLess]at h
 |_,_::_,[],_,h=>by simp[Op.bytesLess]at h
 |[],_::_,_::_,_,_=>by simp[Op.bytesLess]
 |a::x,b::y,c::z,h1,h2=>by
  simp only[Op.bytesLess,Bool.or_eq_true,zJ,zG,beq_iff_eq]at h1 h2⊢
  rcases h1 with h1|⟨rfl,h1⟩
  ·rcases h2 with h2|⟨rfl,_⟩
   ·exact .inl (UInt8.lt_trans h1 h2)
   ·exact .inl h1
  ·rcases h2 with h2|⟨rfl,h2⟩
   ·exact .inl h2
   ·exact .inr ⟨rfl,C2g h1 h2⟩
theorem D6z {x y z:B6p}(h1:B73 x y=true)(h2:B73 y z=true):B73 x z=true:=by
 obtain⟨a,b,s⟩:=x;obtain⟨c,d,t⟩:=y;obtain⟨e,f,u⟩:=z
 simp only[B73,zJ]at h1 h2⊢
 refine⟨⟨h1.1.1,h2.1.2⟩,?_⟩
 have k1:=h1.2;have k2:=h2.2
 by_cases e1:a=c
 ·subst e1
  rw[if_pos rfl]at k1
  by_cases e2:a=e
  ·subst e2
   rw[if_pos rfl]at k2⊢
   by_cases e3:b=d
   ·subst e3
    rw[if_pos rfl]at k1
    by_cases e4:b=f
    ·subst e4;rw[if_pos rfl]at k2⊢;exact C2g k1 k2
    ·rw[if_neg e4]at k2⊢;exact k2
   ·rw[if_neg e3,zG]at k1
    by_cases e4:d=f
    ·subst e4;rw[if_neg e3];exact zD k1
    ·rw[if_neg e4,zG]at k2
     rw[if_neg (by omega)];exact zD (by omega)
  ·rw[if_neg e2]at k2⊢;exact k2
 ·rw[if_neg e1,zG]at k1
  by_cases e2:c=e
  ·subst e2;rw[if_neg e1];exact zD k1
  ·rw[if_neg e2,zG]at k2
   rw[if_neg (by omega)];exact zD (by omega)
def D92 (a:B2e):Prop:=∀v∈a,B4i v.1 v.2.1 v.2.2=true
theorem C3o:∀{a b:B2e},a.length=b.length→D92 a→D92 b→(B2x a b&&B2x b a)=false∧(B2x a b||B2x b a)= !decide (a=b)
 |[],[],_,_,_=>by simp[B2x]
 |[],_::_,h,_,_=>by simp at h
 |_::_,[],h,_,_=>by simp at h
 |x::s,y::t,h,ha,hb=>by
  have ih:=C3o (a:=s) (b:=t) (by simpa using h) (fun v hv=>ha v (zF _ hv)) (fun v hv=>hb v (zF _ hv))
  have hv:=D95 (ha x (zM ..)) (hb y (zM ..))
  simp only[B2x]
  by_cases e:x=y
  ·subst e;simp only[if_true,List.cons.injEq,true_and];exact ih
  ·rw[if_neg e,if_neg (fun h=>e h.symm)]
   refine⟨hv.1,?_⟩
   rw[hv.2,zK e,zK (fun h=>e (List.cons.inj h).1)]
theorem C1z:∀{a b c:B2e},a.length=b.length→b.length=c.length→D92 a→D92 b→D92 c→B2x a b=true→B2x b c=true→B2x a c=true
 |[],[],_,_,_,_,_,_,h,_=>by simp[B2x]at h
 |[],_::_,_,h,_,_,_,_,_,_=>by simp at h
 |_::_,[],_,h,_,_,_,_,_,_=>by simp at h
 |_::_,_::_,[],_,h,_,_,_,_,_=>by simp at h
 |x::s,y::t,z::u,h1,h2,ha,hb,hc,k1,k2=>by
  simp only[B2x]at k1 k2⊢
  by_cases e1:x=y
  ·subst e1
   rw[if_pos rfl]at k1
   by_cases e2:x=z
   ·subst e2
    rw[if_pos rfl]at k2⊢
    exact C1z (by simpa using h1) (by simpa using h2) (fun v hv=>ha v (zF _ hv)) (fun v hv=>hb v (zF _ hv)) (fun v hv=>hc v (zF _ hv)) k1 k2
   ·rw[if_neg e2]at k2⊢;exact k2
  ·rw[if_neg e1]at k1
   by_cases e2:y=z
   ·subst e2;rw[if_neg e1];exact k1
   ·rw[if_neg e2]at k2
    have k3:=D6z k1 k2
    by_cases e3:x=z
    ·subst e3
     have:=(D95 (ha x (zM ..)) (hb y (zM ..))).1
     rw[k1,k2]at this;cases this
    ·rw[if_neg e3];exact k3
theorem C0q {x:C1}(ht:B27 x=true){r:B3q}(hr:B3r x.2.1 r=true):D92 (D5 x.2.1 x.2.2 r):=by
 intro v hv
 simp only[D5,List.mem_map]at hv
 obtain⟨key,hk,rfl⟩:=hv
 obtain⟨h1,h2,_⟩:=(B7h ht).1 key hk
 simp only[B3r,zJ,zG]at hr
 have hi:(D4 x.2.1 key).toNat<x.2.1.length:=by omega
 have:=(B43 _ _ _).mp hr.2 _ hi
 simp only[zS,B84]at this
 generalize r.getD (D4 x.2.1 key).toNat C0w=v at this
 revert this
 cases B4i v.1 v.2.1 v.2.2<;>simp
theorem D5f {α T:Type}(p:α→Bool)(l:List α)(L:Nat→Nat→T)(R:Nat→T)(hexit:∀j,L (j+1) l.length=R l.length)(hstep:∀j k (h:k<l.length),L (j+1) k=if p l[k]=true then L j (k+1)else R k):
  ∀(t:List α) (j k:Nat),l.drop k=t→k≤l.length→t.length<j→L j k=R (k+(t.takeWhile p).length)
 |[],j+1,k,hd,hk,_=>by
  have:k=l.length:=by
   rcases zE1 k l.length with h'|h'
   ·rw[zC1 h']at hd;cases hd
   ·omega
  subst this;rw[hexit];rfl
 |x::t,j+1,k,hd,hk,hj=>by
  obtain⟨h2,h3,h4⟩:=B3d hd x
  have hx:l[k]=x:=by simpa[List.getD,h2]using h3
  rw[hstep j k h2,hx]
  by_cases hp:p x=true
  ·rw[if_pos hp,D5f p l L R hexit hstep t j (k+1) h4 (by omega) (by simp at hj;omega),List.takeWhile_cons_of_pos hp]
   simp only[zW];congr 1;omega
  ·rw[if_neg hp,List.takeWhile_cons_of_neg hp];rfl
theorem takeWhile_take {α:Type}(p:α→Bool):∀l:List α,l.take (l.takeWhile p).length=l.takeWhile p∧l.drop (l.takeWhile p).length=l.dropWhile p
 |[]=>by simp
 |x::t=>by
  obtain⟨h1,h2⟩:=takeWhile_take p t
  by_cases hp:p x=true
  ·simp[List.takeWhile_cons_of_pos hp,List.dropWhile_cons_of_pos hp,h1,h2]
  ·simp[List.takeWhile_cons_of_neg hp,List.dropWhile_cons_of_neg hp]
theorem D8n {α:Type}(p:α→Bool)(l:List α):(l.takeWhile p).length≤l.length:=by
 have:=congrArg List.length (takeWhile_take p l).1
 rw[List.length_take]at this;omega
def C08 (x:C1)(r y:B3q):Bool:=B2x (D5 x.2.1 x.2.2 y) (D5 x.2.1 x.2.2 r)
def B56 (x:C1)(l:A7d)(r:B3q):A7d:=l.takeWhile (C08 x r)++[r]++l.dropWhile (C08 x r)
theorem E35 {α:Type}{l:List α}{i:Nat}{r:α}(h:i≤l.length)(hl:l.length≤1048576):B1k 24 l (i:Int) [r]=some (l.take i++[r]++l.drop i):=by
 unfold B1k
 rw[zD ⟨rfl,by omega,by omega⟩]
 have:room (l.length+1) 24=true:=by simp only[room,zG];omega
 rw[this];rfl
theorem E28 {α:Type}(o:Option α):(o.bind fun r=>some r)=o:=by cases o<;>rfl
theorem C6t:EV fun n=>∀(x:C1) (l:A7d) (r:B3q),B2j 1048576 x→B34 1048576 l→r.length≤1048576→B27 x=true→(∀y∈l,y.length=x.2.1.length)→r.length=x.2.1.length→C0p n x.1 x.2.1 x.2.2 l r=some (B56 x l r):=
 (C07.and (C5e.and (B7t.and (C4j.and (EV.gt 1048577))))).up fun n ⟨h1,h2,h3,h4,hn⟩ x l r hs hl hr ht hy hr2=>by
 have hll:=hl.1
 obtain⟨m,rfl⟩:∃m,n=m+1:=⟨n - 1,by omega⟩
 simp only[C0p]
 refine(D5f (C08 x r) l (fun j k=>B7u (m+1) j l (k:Int) x.1 x.2.1 x.2.2 r) (fun k=>B1k 24 l (k:Int) [r]) (fun j=>?_) (fun j k hk=>?_) l (m+1) 0 rfl (by omega) (by omega)).trans ?_
 ·simp only[B7u,D2,zP,zH,zA,h3 l hl,h4 r hr,zC,B3b,E28]
 ·have e:=h2 (D5 x.2.1 x.2.2 l[k]) (D5 x.2.1 x.2.2 r) (by rw[B44];exact hs.2.2.1)
  simp only[B7u,D2,zD hk,D1 hk,zE,getD_at hk,zB,D3 hk (by omega),h1 x l[k] hs ht (hy _ (zL hk)),h1 x r hs ht hr2,e,zC,h3 l hl,h4 r hr,B3b,E28,C08]
  exact B8q _ _
 ·have:=D8n (C08 x r) l
  rw[zS,E35 this hll,(takeWhile_take _ _).1,(takeWhile_take _ _).2];rfl
def C20 (x:C1)(r:B3q)(y:B3q)(s:Bool×A7d):Bool×A7d:=if s.1=true then(true,s.2++[y])else if B2x (D5 x.2.1 x.2.2 r) (D5 x.2.1 x.2.2 y)=true then(true,s.2++[r]++[y])else(false,s.2++[y])
def C90 (r:B3q)(s:Bool×A7d):A7d:=if s.1=true then s.2 else s.2++[r]
theorem D93 (x:C1)(r:B3q):∀(t:A7d) (k:Nat) (acc:A7d),B7p (fun _=>C20 x r) k t (true,acc)=(true,acc++t)
 |[],k,acc=>by simp[B7p]
 |y::t,k,acc=>by
  simp only[B7p,C20,if_true]
  rw[D93 x r t];simp
theorem lay_all (x:C1)(r:B3q):∀(t:A7d) (k:Nat) (acc:A7d),(∀y∈t,B2x (D5 x.2.1 x.2.2 r) (D5 x.2.1 x.2.2 y)= !C08 x r y)→C90 r (B7p (fun _=>C20 x r) k t (false,acc))=acc++B56 x t r
 |[],k,acc,_=>by simp[B7p,C90,B56]
 |y::t,k,acc,h=>by
  have hy:=h y (zM ..)
  simp only[B7p,C20,Bool.false_eq_true,if_false]
  cases hp:C08 x r y
  ·rw[hp]at hy
   rw[if_pos (by simpa using hy),D93]
   simp[C90,B56,List.takeWhile_cons_of_neg (show¬C08 x r y=true by simp[hp]),List.dropWhile_cons_of_neg (show¬C08 x r y=true by simp[hp])]
  ·rw[hp]at hy
   rw[if_neg (by simp[hy]),lay_all x r t _ _ fun z hz=>h z (zF _ hz)]
   simp[B56,List.takeWhile_cons_of_pos hp,List.dropWhile_cons_of_pos hp]
theorem C6y:EV fun n=>∀(x:C1) (l:A7d) (r:B3q),B2j 1048576 x→B34 1048576 l→r.length≤1048576→B27 x=true→(∀y∈l,y.length=x.2.1.length)→r.length=x.2.1.length→
  C2d n x.1 x.2.1 x.2.2 l r=some (C90 r (B7p (fun _=>C20 x r) 0 l (false,[]))):=(B82.and (C2h.and (C3f.and (EV.gt 1048577)))).up fun n ⟨h1,h2,h3,hn⟩ x l r hs hl hr ht hy hr2=>by
 have hll:=hl.1
 simp only[C2d]
 refine B8a l (fun _=>C20 x r) (fun j k (s:Bool×A7d)=>B4x n j s.1 l (l.length:Int) (k:Int) x.1 x.2.1 x.2.2 r s.2) (fun s=>some (C90 r s)) (fun k s=>(s.1=false→s.2.length≤k)∧s.2.length≤k+1) (fun k hk s h1=>?_) (fun j s h=>?_) (fun j k s hk ha=>?_) l n 0 (false,[]) rfl (by omega) (by omega) ⟨fun _=>Nat.le_refl 0,Nat.zero_le _⟩
 ·obtain⟨b,acc⟩:=s
  obtain⟨h1,h2⟩:=h1
  cases b
  ·have:=h1 rfl
   simp only[C20,Bool.false_eq_true,if_false]
   split
   ·refine⟨fun h=>(by cases h),?_⟩
    simp;dsimp only at this;omega
   ·refine⟨fun _=>?_,?_⟩<;>(simp;dsimp only at this;omega)
  ·simp only[C20,if_true]
   refine⟨fun h=>(by cases h),?_⟩
   simp;dsimp only at h2;omega
 ·obtain⟨h0,h⟩:=h
  have r3:room (s.2.length+[r].length) 24=true:=by simp only[room,zG,zW,zX];omega
  simp only[B4x,D2,zP,zH,zA,h3 r hr,zC,r3,zB,C90]
  cases s.1<;>rfl
 ·obtain⟨_,ha⟩:=ha
  have e:=h3 l[k] (hl.2 _ (zL hk)).1
  have e2:=h2 (D5 x.2.1 x.2.2 r) (D5 x.2.1 x.2.2 l[k]) (by rw[B44];exact hs.2.2.1)
  have r3:∀y:B2e,room (s.2.length+[y].length) 24=true:=fun y=>by simp only[room,zG,zW,zX];omega
  have r4:∀y z:B2e,room ((s.2++[y]).length+[z].length) 24=true:=fun y z=>by simp only[room,zG,List.length_append,zW,zX];omega
  simp only[B4x,D2,zD hk,D1 hk,zE,getD_at hk,zB,D3 hk (by omega),e,h3 r hr,h1 x r hs ht hr2,h1 x l[k] hs ht (hy _ (zL hk)),e2,zC,r3,r4,C20]
  obtain⟨b,acc⟩:=s
  cases b
  ·cases B2x (D5 x.2.1 x.2.2 r) (D5 x.2.1 x.2.2 l[k])<;>rfl
  ·rfl
theorem D91 {α:Type}(p:α→Bool):∀(l:List α) (k:Nat),idxFrom p l k= -1↔∀y∈l,p y=false
 |[],k=>by simp[idxFrom]
 |x::t,k=>by
  simp only[idxFrom,List.mem_cons,forall_eq_or_imp]
  by_cases h:p x=true
  ·rw[if_pos h]
   constructor
   ·intro e;omega
   ·intro e;rw[e.1]at h;cases h
  ·rw[if_neg h,D91 p t (k+1)]
   simp at h
   simp[h]
theorem D0o {α:Type}(p:α→Bool)(l:List α):¬0≤idx p l↔∀y∈l,p y=false:=by
 rw[←D91 p l 0]
 have:=(C0z p l).1
 unfold idx at this⊢
 omega
theorem D4a {x:C1}{l:A7d}{r:B3q}(ht:B27 x=true)(hl:∀y∈l,B3r x.2.1 y=true)(hr:B3r x.2.1 r=true)(hk:∀y∈l,D5 x.2.1 x.2.2 y≠D5 x.2.1 x.2.2 r):
  C90 r (B7p (fun _=>C20 x r) 0 l (false,[]))=B56 x l r:=by
 rw[lay_all x r l 0 [] fun y hy=>?_]
 ·rfl
 ·obtain⟨h1,h2⟩:=C3o (a:=D5 x.2.1 x.2.2 y) (b:=D5 x.2.1 x.2.2 r) (by rw[B44,B44]) (C0q ht (hl y hy)) (C0q ht hr)
  rw[zK (hk y hy)]at h2
  unfold C08
  revert h1 h2
  cases B2x (D5 x.2.1 x.2.2 y) (D5 x.2.1 x.2.2 r)<;>cases B2x (D5 x.2.1 x.2.2 r) (D5 x.2.1 x.2.2 y)<;>simp
theorem C91 {x:C1}{l:A7d}{r y:B3q}(h:y∈B56 x l r):y∈l∨y=r:=by
 unfold B56 at h
 simp only[zY,zF1]at h
 rcases h with(h|h)|h
 ·exact .inl (by rw[←List.takeWhile_append_dropWhile (p:=C08 x r) (l:=l)];exact zZ _ h)
 ·exact .inr h
 ·exact .inl (by rw[←List.takeWhile_append_dropWhile (p:=C08 x r) (l:=l)];exact zA1 _ h)
theorem C34 (x:C1)(l:A7d)(r:B3q):(B56 x l r).length=l.length+1:=by
 have:=congrArg List.length (List.takeWhile_append_dropWhile (p:=C08 x r) (l:=l))
 simp only[List.length_append]at this
 simp[B56];omega
theorem D7c {x:C1}{l:A7d}{r:B3q}(hl:B34 1048576 l)(h60:l.length≤60)(hr:C39 1048576 r):B34 1048576 (B56 x l r):=
 ⟨by rw[C34];omega,fun y hy=>by
  rcases C91 hy with hy|rfl
  ·exact hl.2 y hy
  ·exact hr⟩
def B3v (x:C1)(l:A7d)(key:B2e):Int:=idx (fun r=>decide (D5 x.2.1 x.2.2 r=key)) l
def B88 (x:C1)(l:A7d)(r:B3q):A7d×(Int×Unit):=
 if B2r x l=true then(if B3r x.2.1 r=true then(if 0≤B3v x l (D5 x.2.1 x.2.2 r)then([],(3,()))else if l.length=60 then([],(4,()))else(B56 x l r,(0,())))else([],(2,())))else([],(1,()))
theorem D3d {x:C1}{l:A7d}{key:B2e}(h:¬0≤B3v x l key):∀y∈l,D5 x.2.1 x.2.2 y≠key:=fun y hy e=>by
 have:=(D0o _ _).mp h y hy
 rw[zD e]at this;cases this
theorem C1a:EV fun n=>∀(x:C1) (l:A7d) (r:B3q),B2j 1048576 x→B34 1048576 l→r.length≤1048576→C0r n x.1 x.2.1 x.2.2 l r=some (B88 x l r):=(B7v.and (C22.and (B82.and (C45.and C6y)))).up fun n ⟨h1,h2,h3,h4,h5⟩ x l r hs hl hrl=>by
 simp only[C0r,h1 x l hs hl.1,h2 x r hs,zC,B88,B2z]
 cases hr:B2r x l
 ·simp
 have ht:=(B3w hr).1
 simp only[zT,zA,if_true,ht,zG1]
 cases hi:B3r x.2.1 r
 ·simp
 simp only[zT,zA,if_true,h3 x r hs ht (B4q hi),h4 x l _ hs hl.1,zC,D1n,hr]
 rw[show idx (fun y=>decide (D5 x.2.1 x.2.2 y=D5 x.2.1 x.2.2 r)) l=B3v x l (D5 x.2.1 x.2.2 r)from rfl]
 by_cases c:0≤B3v x l (D5 x.2.1 x.2.2 r)
 ·rw[zD c,if_pos c];rfl
 ·rw[zK c,if_neg c]
  by_cases c2:l.length=60
  ·rw[zD (by omega),if_pos c2];rfl
  ·rw[zK (by omega),if_neg c2,h5 x l r hs hl hrl ht (B6u hr) (B4q hi),D4a ht (B3w hr).2.2 hi (D3d c)];rfl
theorem C6q:EV fun n=>∀(x:C1) (l:A7d) (r:B3q),B2j 1048576 x→B34 1048576 l→r.length≤1048576→C0n n x.1 x.2.1 x.2.2 l r=some (B88 x l r):=(B9d.and (C43.and (C07.and (C42.and C6t)))).up fun n ⟨h1,h2,h3,h4,h5⟩ x l r hs hl hrl=>by
 simp only[C0n,h1 x l hs hl.1,zC,B88,B2z]
 cases hr:B2r x l
 ·simp
 have ht:=(B3w hr).1
 simp only[zT,zA,if_true,h2 x r hs ht,zC]
 cases hi:B3r x.2.1 r
 ·simp
 simp only[zT,zA,if_true,h3 x r hs ht (B4q hi),h4 x l _ hs hl.1 ht (B6u hr),zC]
 rw[show idx (fun y=>decide (D5 x.2.1 x.2.2 y=D5 x.2.1 x.2.2 r)) l=B3v x l (D5 x.2.1 x.2.2 r)from rfl]
 by_cases c:0≤B3v x l (D5 x.2.1 x.2.2 r)
 ·rw[zD c,if_pos c];rfl
 ·rw[zK c,if_neg c]
  by_cases c2:l.length=60
  ·rw[zD (by omega),if_pos c2];rfl
  ·rw[zK (by omega),if_neg c2,h5 x l r hs hl hrl ht (B6u hr) (B4q hi)];rfl
theorem D9c:EV fun n=>∀(x0:C1) (x1:A7d) (x2:B3q),B2j 1048576 x0→B34 1048576 x1→C39 1048576 x2→∃r,C0r n x0.1 x0.2.1 x0.2.2 x1 x2=some r∧C0n n x0.1 x0.2.1 x0.2.2 x1 x2=some r∧B34 1048576 r.1:=
 (C1a.and C6q).mono fun n ⟨h1,h2⟩ x l r hx hl hr=>⟨_,h1 x l r hx hl hr.1,h2 x l r hx hl hr.1,by
  unfold B88
  split
  ·rename_i h
   split
   ·split
    ·exact B4l
    ·split
     ·exact B4l
     ·exact D7c hl (B3w h).2.1 hr
   ·exact B4l
  ·exact B4l⟩
theorem C27 {x:C1}{l:A7d}(h:B2r x l=true):∀i j (hi:i<j) (hj:j<l.length),B2x (D5 x.2.1 x.2.2 l[i]) (D5 x.2.1 x.2.2 l[j])=true:=by
 obtain⟨ht,_,hin⟩:=B3w h
 simp only[B2r,zJ]at h
 have hstep:∀k (hk:k+1<l.length),B2x (D5 x.2.1 x.2.2 l[k]) (D5 x.2.1 x.2.2 l[k+1])=true:=fun k hk=>by
  have:=(B43 _ _ _).mp h.2 (k+1) hk
  simp only[zS,B3g,zJ,Nat.add_sub_cancel,getD_at (show k<l.length by omega)]at this
  simpa using this.2
 intro i j hi
 induction j with
 |zero=>omega
 |succ j ih=>
  intro hj
  by_cases e:i=j
  ·subst e;exact hstep i hj
  ·have k1:=ih (by omega) (by omega)
   have hv:∀q (hq:q<l.length),D92 (D5 x.2.1 x.2.2 l[q]):=fun q hq=>C0q ht (hin _ (zL hq))
   exact C1z (by rw[B44,B44]) (by rw[B44,B44]) (hv _ _) (hv _ _) (hv _ _) k1 (hstep j hj)
theorem C36 {x:C1}{l:A7d}(ht:B27 x=true)(hl:l.length≤60)(hin:∀r∈l,B3r x.2.1 r=true)(hs:∀k (hk:k+1<l.length),B2x (D5 x.2.1 x.2.2 l[k]) (D5 x.2.1 x.2.2 l[k+1])=true):B2r x l=true:=by
 simp only[B2r,ht,zD hl,zG1]
 refine(B43 _ _ _).mpr fun i hi=>?_
 simp only[zS,B3g,hin _ (zL hi),zG1,Bool.or_eq_true,zG]
 cases i with
 |zero=>exact .inl rfl
 |succ i=>
  right
  rw[Nat.add_sub_cancel,getD_at (show i<l.length by omega)]
  exact hs i hi
theorem B7i {α:Type}{l:List α}{i j:Nat}(hj:j<(B2b l i).length):∃(h:(if j<i then j else j+1)<l.length),(B2b l i)[j]=l[(if j<i then j else j+1)]:=by
 have hl:(B2b l i).length=min i l.length+(l.length - (i+1)):=by simp[B2b]
 by_cases c:j<i
 ·rw[if_pos c]
  refine⟨by omega,?_⟩
  simp only[B2b]
  rw[List.getElem_append_left (by simp;omega),List.getElem_take]
 ·rw[if_neg c]
  refine⟨by omega,?_⟩
  simp only[B2b]
  rw[List.getElem_append_right (by simp;omega),List.getElem_drop]
  congr 1;simp;omega
theorem C2q {x:C1}{l:A7d}(h:B2r x l=true)(i:Nat):B2r x (B2b l i)=true:=by
 obtain⟨ht,hlen,hin⟩:=B3w h
 refine C36 ht (Nat.le_trans (C0u l i) hlen) (fun r hr=>hin r (C0v hr)) fun k hk=>?_
 obtain⟨a1,a2⟩:=B7i (l:=l) (i:=i) (j:=k) (by omega)
 obtain⟨b1,b2⟩:=B7i (l:=l) (i:=i) (j:=k+1) hk
 rw[a2,b2]
 refine C27 h _ _ ?_ b1
 split<;>split<;>omega
theorem E1n {x:C1}{l:A7d}(h:B2r x l=true){i j:Nat}(hi:i<l.length)(hj:j<l.length)(e:D5 x.2.1 x.2.2 l[i]=D5 x.2.1 x.2.2 l[j]):i=j:=by
 have irr:∀q (hq:q<l.length),B2x (D5 x.2.1 x.2.2 l[q]) (D5 x.2.1 x.2.2 l[q])=false:=fun q hq=>by
  obtain⟨ht,_,hin⟩:=B3w h
  have:=(C3o (a:=D5 x.2.1 x.2.2 l[q]) (b:=D5 x.2.1 x.2.2 l[q]) rfl (C0q ht (hin _ (zL hq))) (C0q ht (hin _ (zL hq)))).1
  simpa using this
 rcases Nat.lt_trichotomy i j with c|c|c
 ·have:=C27 h i j c hj;rw[e,irr j hj]at this;cases this
 ·exact c
 ·have:=C27 h j i c hi;rw[e,irr j hj]at this;cases this
theorem C4w {α:Type}(p:α→Bool):∀(l:List α) (k i:Nat),idxFrom p l k=((k+i:Nat):Int)→∃h:i<l.length,p l[i]=true
 |[],k,i,h=>by simp only[idxFrom]at h;omega
 |x::t,k,i,h=>by
  simp only[idxFrom]at h
  split at h
  ·rename_i hp
   obtain rfl:i=0:=by omega
   exact⟨by simp,hp⟩
  ·rcases D1p p t (k+1)with e|e
   ·omega
   ·obtain⟨i,rfl⟩:∃i',i=i'+1:=⟨i - 1,by omega⟩
    obtain⟨h1,h2⟩:=C4w p t (k+1) i (by rw[h];congr 1;omega)
    exact⟨by simp;exact h1,by simpa using h2⟩
theorem D8p {α:Type}{l:List α}{i j:Nat}(hj:j<l.length)(h:j≠i):l[j]∈B2b l i:=by
 rcases Nat.lt_or_gt_of_ne h with c|c
 ·exact zZ _ (List.mem_iff_getElem.mpr ⟨j,by simp;omega,by rw[List.getElem_take]⟩)
 ·exact zA1 _ (List.mem_iff_getElem.mpr ⟨j - (i+1),by simp;omega,by rw[List.getElem_drop];congr 1;omega⟩)
def C0d (x:C1)(l:A7d)(key:B2e)(r:B3q):A7d×(Int×Unit):=
 if B2r x l=true then(if B3r x.2.1 r=true then(if C2w x key=true∧0≤B3v x l key then
  (if 0≤B3v x (B2b l (B3v x l key).toNat) (D5 x.2.1 x.2.2 r)then([],(3,()))else(B56 x (B2b l (B3v x l key).toNat) r,(0,())))else([],(5,())))else([],(2,())))else([],(1,()))
theorem C3e:EV fun n=>∀(x:C1) (l:A7d) (key:B2e) (r:B3q),B2j 1048576 x→B34 1048576 l→r.length≤1048576→C29 n x.1 x.2.1 x.2.2 l key r=some (C0d x l key r):=(B7v.and (C22.and (B82.and (C45.and (C6y.and (C8s.and C3g)))))).up fun n ⟨h1,h2,h3,h4,h5,h6,h7⟩ x l key r hs hl hrl=>by
 simp only[C29,h1 x l hs hl.1,h2 x r hs,h6 x key hs,h4 x l _ hs hl.1,zC,C0d]
 cases hr:B2r x l
 ·simp
 have ht:=(B3w hr).1
 simp only[zT,zA,if_true,ht,zG1,D1n,hr]
 cases hi:B3r x.2.1 r
 ·simp
 cases hk:C2w x key
 ·simp
 simp only[zT,zA,if_true,true_and]
 rw[show idx (fun y=>decide (D5 x.2.1 x.2.2 y=key)) l=B3v x l key from rfl]
 obtain⟨b1,b2⟩: -1≤B3v x l key∧B3v x l key<(l.length:Int):=C0z _ _
 generalize B3v x l key=i at b1 b2
 by_cases c:i<0
 ·rw[zD c,if_neg (by omega)];rfl
 obtain⟨i,rfl⟩:=Int.eq_ofNat_of_zero_le (show 0≤i by omega)
 have hw:=C2q hr i
 rw[zK c,if_pos (by omega)]
 simp only[zA,h7 l i hl,zC,h3 x r hs ht (B4q hi),h4 x (B2b l i) _ hs (C3a hl).1,D1n,hw,if_true,zE]
 rw[show idx (fun y=>decide (D5 x.2.1 x.2.2 y=D5 x.2.1 x.2.2 r)) (B2b l i)=B3v x (B2b l i) (D5 x.2.1 x.2.2 r)from rfl]
 by_cases c2:0≤B3v x (B2b l i) (D5 x.2.1 x.2.2 r)
 ·rw[zD c2,if_pos c2];rfl
 ·rw[zK c2,if_neg c2,h5 x (B2b l i) r hs (C3a hl) hrl ht (B6u hw) (B4q hi),D4a ht (B3w hw).2.2 hi (D3d c2)];rfl
theorem C4x {α:Type}{p:α→Bool}{l:List α}(h:∃y∈l,p y=true):0≤idx p l:=by
 by_cases c:0≤idx p l
 ·exact c
 ·obtain⟨y,hy,hp⟩:=h
  rw[(D0o p l).mp c y hy]at hp;cases hp
theorem C6r:EV fun n=>∀(x:C1) (l:A7d) (key:B2e) (r:B3q),B2j 1048576 x→B34 1048576 l→key.length≤1048576→r.length≤1048576→C0o n x.1 x.2.1 x.2.2 l key r=some (C0d x l key r):=(B9d.and (C43.and (C07.and (C42.and (C6t.and (C8o.and (B7t.and (C37.and (EV.gt 0))))))))).up fun n ⟨h1,h2,h3,h4,h5,h6,h7,h8,hn⟩ x l key r hs hl hkl hrl=>by
 obtain⟨m,rfl⟩:∃m,n=m+1:=⟨n - 1,by omega⟩
 have hll:=hl.1
 simp only[C0o,h1 x l hs hl.1,h6 x key hs,zC,C0d]
 cases hr:B2r x l
 ·simp
 have ht:=(B3w hr).1
 simp only[zT,zA,if_true,h2 x r hs ht,zC,h4 x l _ hs hl.1 ht (B6u hr)]
 cases hi:B3r x.2.1 r
 ·simp
 cases hk:C2w x key
 ·simp
 simp only[zT,zA,if_true,true_and,h3 x r hs ht (B4q hi),zC,h7 l hl,h4 x l _ hs hl.1 ht (B6u hr),B30]
 rw[show idx (fun y=>decide (D5 x.2.1 x.2.2 y=key)) l=B3v x l key from rfl]
 have hat:∀i:Nat,B3v x l key=(i:Int)→∃h:i<l.length,D5 x.2.1 x.2.2 l[i]=key:=fun i e=>by
  obtain⟨a,b⟩:=C4w (fun y=>decide (D5 x.2.1 x.2.2 y=key)) l 0 i (by rw[zS];exact e)
  exact⟨a,of_decide_eq_true b⟩
 obtain⟨b1,b2⟩: -1≤B3v x l key∧B3v x l key<(l.length:Int):=C0z _ _
 generalize B3v x l key=i at b1 b2 hat
 by_cases c:i<0
 ·rw[zD c,if_neg (by omega)];rfl
 obtain⟨i,rfl⟩:=Int.eq_ofNat_of_zero_le (show 0≤i by omega)
 obtain⟨hil,hat⟩:=hat i rfl
 have hw:=C2q hr i
 rw[zK c,if_pos (by omega)]
 have e8:B33 (m+1) (D5 x.2.1 x.2.2 r) key=some (decide (D5 x.2.1 x.2.2 r=key)):=by first|exact h8 _ _ (by rw[B44];exact hs.2.2.1)|exact h8 _ _ (by rw[B44];exact hs.2.2.1) hkl
 simp only[zA,e8,zC,D3 hil (by omega),E0z hil,zE,h5 x (B2b l i) r hs (C3a hl) hrl ht (B6u hw) (B4q hi)]
 rw[show idx (fun y=>decide (D5 x.2.1 x.2.2 y=D5 x.2.1 x.2.2 r)) l=B3v x l (D5 x.2.1 x.2.2 r)from rfl]
 by_cases e:D5 x.2.1 x.2.2 r=key
 ·rw[zD e]
  have hno:¬0≤B3v x (B2b l i) (D5 x.2.1 x.2.2 r):=by
   refine(D0o _ _).mpr fun y hy=>zK fun hy2=>?_
   obtain⟨j,hj,rfl⟩:=List.mem_iff_getElem.mp hy
   obtain⟨g1,g2⟩:=B7i hj
   rw[g2,e,←hat]at hy2
   have:=E1n hr g1 hil hy2
   split at this<;>omega
  rw[if_neg hno];rfl
 ·rw[zK e]
  simp only[zU,zB]
  have hiff:0≤B3v x l (D5 x.2.1 x.2.2 r)↔0≤B3v x (B2b l i) (D5 x.2.1 x.2.2 r):=by
   constructor
   ·intro h
    obtain⟨q,hq⟩:=Int.eq_ofNat_of_zero_le h
    obtain⟨a,b⟩:=C4w (fun y=>decide (D5 x.2.1 x.2.2 y=D5 x.2.1 x.2.2 r)) l 0 q (by rw[zS];exact hq)
    refine C4x ⟨l[q],D8p a ?_,b⟩
    rintro rfl
    exact e ((of_decide_eq_true b).symm.trans hat)
   ·intro h
    obtain⟨q,hq⟩:=Int.eq_ofNat_of_zero_le h
    obtain⟨a,b⟩:=C4w (fun y=>decide (D5 x.2.1 x.2.2 y=D5 x.2.1 x.2.2 r)) (B2b l i) 0 q (by rw[zS];exact hq)
    exact C4x ⟨_,C0v (zL a),b⟩
  by_cases c2:0≤B3v x l (D5 x.2.1 x.2.2 r)
  ·rw[zD c2,if_pos (hiff.mp c2)];rfl
  ·rw[zK c2,if_neg (fun h=>c2 (hiff.mpr h))];rfl
theorem D9d:EV fun n=>∀(x0:C1) (x1:A7d) (x2:B2e) (x3:B3q),B2j 1048576 x0→B34 1048576 x1→D3f 1048576 x2→C39 1048576 x3→∃r,C29 n x0.1 x0.2.1 x0.2.2 x1 x2 x3=some r∧C0o n x0.1 x0.2.1 x0.2.2 x1 x2 x3=some r∧B34 1048576 r.1:=
 (C3e.and C6r).mono fun n ⟨h1,h2⟩ x l key r hx hl hk hr=>⟨_,h1 x l key r hx hl hr.1,h2 x l key r hx hl hk.1 hr.1,by
  unfold C0d
  split
  ·rename_i h
   split
   ·split
    ·split
     ·exact B4l
     ·exact D7c (C3a hl) (Nat.le_trans (C0u _ _) (B3w h).2.1) hr
    ·exact B4l
   ·exact B4l
  ·exact B4l⟩
def B87 (a b:ByteArray):Bool:=Op.bytesLess a.toList b.toList
theorem D1s (a:ByteArray):B87 a a=false:=by
 have:=(C1w a.toList a.toList).1
 rwa[Bool.and_self]at this
theorem D75 {a b:ByteArray}(h:B87 a b=false)(hne:a≠b):B87 b a=true:=by
 have:=(C1w a.toList b.toList).2
 have e:¬a.toList=b.toList:=fun e=>hne (by rw[D5d]at e;exact e)
 simp only[B87]at h⊢
 rw[h,Bool.false_or,zK e]at this
 exact this
theorem C6w {a b c:ByteArray}(h:B87 a b=true)(h2:B87 b c=true):B87 a c=true:=C2g h h2
theorem D94 {a b:ByteArray}(h:B87 a b=true):B87 b a=false:=by
 cases h2:B87 b a
 ·rfl
 ·have:=C6w h h2
  rw[D1s]at this;cases this
def D46 (l:List ByteArray)(s:ByteArray):Bool:=l.any fun x=>decide (x=s)
theorem D8z (l:List ByteArray)(s:ByteArray):D46 l s=true↔s∈l:=by
 simp only[D46,List.any_eq_true,zG]
 exact⟨fun⟨x,h,e⟩=>e▸h,fun h=>⟨s,h,rfl⟩⟩
def tAt (l:B25)(s:ByteArray):Int:=idx (fun t:C1=>decide (t.1=s)) l
theorem C78 {l:B25}{s:ByteArray}:0≤tAt l s↔∃t∈l,t.1=s:=by
 constructor
 ·intro h
  refine Classical.byContradiction fun hn=>?_
  refine(D0o (fun t:C1=>decide (t.1=s)) l).mpr (fun t ht=>?_) h
  exact zK fun e=>hn ⟨t,ht,e⟩
 ·rintro⟨t,ht,e⟩
  exact C4x ⟨t,ht,zD e⟩
theorem C8w {l:B25}(h:B5r l=true):∀i j (hi:i<j) (hj:j<l.length),B87 l[i].1 l[j].1=true:=by
 have hstep:∀k (hk:k+1<l.length),B87 l[k].1 l[k+1].1=true:=fun k hk=>by
  simp only[B5r,zJ,zG]at h
  have:=C0l h.2 hk
  simp only[B3u,zJ,Bool.or_eq_true,zG]at this
  rcases this.2 with e|e
  ·omega
  ·simp only[Nat.add_sub_cancel]at e
   rw[getD_at (show k<l.length by omega)]at e
   exact e
 intro i j hi
 induction j with
 |zero=>omega
 |succ j ih=>
  intro hj
  rcases zE1 i j with c|c
  ·exact C6w (ih c (by omega)) (hstep j hj)
  ·have:i=j:=by omega
   subst this;exact hstep _ hj
theorem D9y {l:B25}(h:B5r l=true){k:Nat}(hk:k<l.length):tAt l l[k].1=(k:Int):=by
 have hp:0≤tAt l l[k].1:=C78.mpr ⟨l[k],zL hk,rfl⟩
 obtain⟨i,e⟩:=Int.eq_ofNat_of_zero_le hp
 obtain⟨hi,e2⟩:=C4w (fun t:C1=>decide (t.1=l[k].1)) l 0 i (by rw[zS];exact e)
 rw[zG]at e2
 rw[e]
 rcases zE1 i k with c|c
 ·have:=C8w h i k c hk
  rw[e2,D1s]at this;cases this
 ·rcases zE1 k i with c2|c2
  ·have:=C8w h k i c2 hi
   rw[e2,D1s]at this;cases this
  ·have:i=k:=by omega
   rw[this]
theorem B96 (l:B25)(s:ByteArray):tAt l s<0∨∃k:Nat,tAt l s=(k:Int)∧k<l.length:=by
 obtain⟨b1,b2⟩:=C0z (fun t:C1=>decide (t.1=s)) l
 rw[show idx (fun t:C1=>decide (t.1=s)) l=tAt l s from rfl]at b1 b2
 by_cases c:0≤tAt l s
 ·obtain⟨k,e⟩:=Int.eq_ofNat_of_zero_le c
  exact .inr ⟨k,e,by omega⟩
 ·exact .inl (by omega)
theorem C38:EV fun n=>∀(l:List ByteArray) (s:ByteArray),l.length≤1048576→B3p n l s=some (idx (fun x=>decide (s=x)) l):=(EV.gt 1048577).up fun n hn l s hl=>by
 rw[B3p]
 refine B8r (fun x=>decide (s=x)) l (fun j k=>B37 n j l s (l.length:Int) (k:Int)) (fun j=>?_) (fun j k hk=>?_) l n 0 rfl (by omega) (by omega)
 ·simp only[B37,D2,zP,zH,zA]
 ·simp only[B37,D2,zD hk,D1 hk,zE,getD_at hk,zB,D3 hk (by omega),B41]
  exact B8q _ _
theorem E16 (l:List ByteArray)(s:ByteArray):decide ((0:Int)≤idx (fun x=>decide (s=x)) l)=D46 l s:=by
 rw[idx,D7u]
 simp only[D46]
 congr 1
 funext x
 rw[decide_eq_decide]
 exact⟨fun h=>h.symm,fun h=>h.symm⟩
theorem C5n:EV fun n=>∀(l:List ByteArray) (s:ByteArray),l.length≤1048576→C3 n l s=some (D46 l s):=C38.up fun n h l s hl=>by
 simp only[C3,h l s hl,zC,E16]
theorem D4j:EV fun n=>∀(l:List ByteArray) (s:ByteArray),l.length≤1048576→C3v n l s=some (D46 l s):=(EV.gt 1048577).up fun n hn l s hl=>by
 rw[C3v]
 have key:∀(t:List ByteArray) (j k:Nat),l.drop k=t→k≤l.length→t.length<j→B7z n j s l (l.length:Int) (k:Int)=some (D46 t s):=by
  intro t
  induction t with
  |nil=>
   intro j k hdr hk hj
   obtain⟨j,rfl⟩:∃i,j=i+1:=⟨j - 1,by simp at hj;omega⟩
   have:k=l.length:=by
    rcases zE1 k l.length with h'|h'
    ·rw[zC1 h']at hdr;cases hdr
    ·omega
   subst this
   simp only[B7z,D2,zP,zH,zA];rfl
  |cons x t ih=>
   intro j k hdr hk hj
   obtain⟨j,rfl⟩:∃i,j=i+1:=⟨j - 1,by simp at hj;omega⟩
   obtain⟨h2,h3,h4⟩:=B3d hdr E0
   rw[getD_at h2]at h3
   simp only[B7z,D2,zD h2,D1 h2,zE,getD_at h2,h3,zB,D3 h2 (by omega),B41]
   rw[ih j (k+1) h4 (by omega) (by simp at hj;omega)]
   simp only[D46,List.any_cons]
   cases decide (x=s)<;>rfl
 exact key l n 0 rfl (by omega) (by omega)
def B4h (x:C1)(d:B2w):Int:=
 if d.1=3 then(if 0≤D4 x.2.1 (d.2.2.1.getD 0 CZ).1 then 5 else if x.2.1.length=8 then 6 else 0)else
 if d.1=4 then(if D4 x.2.1 d.2.2.2.2.1<0 then 7 else if D46 x.2.2 d.2.2.2.2.1=true then 8 else 0)else
 if d.1=5 then(if 0≤D4 x.2.1 d.2.2.2.2.2 then 5 else if D4 x.2.1 d.2.2.2.2.1<0 then 7 else 0)else 0
theorem C1v {p:Prop} [Decidable p]{α:Type}(x y:α):(bif decide p then x else y)=if p then x else y:=by by_cases h:p<;>simp[h]
theorem D1w:EV fun n=>∀(x:C1) (d:B2w),B2j 1048576 x→B3m d=true→C24 n x.1 x.2.1 x.2.2 d.1 d.2.1 d.2.2.1 d.2.2.2.1 d.2.2.2.2.1 d.2.2.2.2.2=some (B4h x d):=(B91.and D4j).up fun n ⟨h1,h2⟩ x d hs hd=>by
 have hc:=hs.2.1.1
 have hk:=hs.2.2.1
 simp only[C24,h1 _ _ _ _ hc,h2 _ _ hk,zC,B2z,B4h]
 by_cases k3:d.1=3
 ·obtain⟨c,hcs,_⟩:=C2m hd k3
  simp only[k3,zI,zB,if_true,hcs,List.length_singleton,E0j,Int.toNat_zero,List.getD_cons_zero,C1v]
  split
  ·rfl
  ·by_cases h8:x.2.1.length=8
   ·rw[if_pos (by omega),if_pos h8]
   ·rw[if_neg (by omega),if_neg h8]
 by_cases k4:d.1=4
 ·simp only[k4,show¬(4:Int)=3 by decide,zH,zI,zB,zA,if_true,if_false,C1v]
  split
  ·rfl
  ·cases D46 x.2.2 d.2.2.2.2.1<;>rfl
 by_cases k5:d.1=5
 ·simp only[k5,show¬(5:Int)=3 by decide,show¬(5:Int)=4 by decide,zH,zI,zB,zA,if_true,if_false,C1v]
  split
  ·rfl
  ·split<;>rfl
 ·simp only[k3,k4,k5,zH,zA,if_false]
def B98 (l:B25)(d:B2w):Int:=
 if d.1=1 then(if 0≤tAt l d.2.1 then 2 else if l.length=6 then 3 else 0)else
 if tAt l d.2.1<0 then 4 else B4h (l.getD (tAt l d.2.1).toNat C19) d
theorem C5g:EV fun n=>∀(l:B25) (d:B2w),B8z 1048576 l→B3m d=true→C18 n l d.1 d.2.1 d.2.2.1 d.2.2.2.1 d.2.2.2.2.1 d.2.2.2.2.2=some (B98 l d):=(C10.and (B8s.and C5n)).up fun n ⟨h1,h2,h3⟩ l d hs hd=>by
 have e:=h1 l d.2.1 hs.1
 rw[show idx (fun t:C1=>decide (t.1=d.2.1)) l=tAt l d.2.1 from rfl]at e
 simp only[C18,e,zC,B2z,B98]
 by_cases k1:d.1=1
 ·simp only[k1,zI,zB,if_true,C1v]
  split
  ·rfl
  ·by_cases h8:l.length=6
   ·rw[if_pos (by omega),if_pos h8]
   ·rw[if_neg (by omega),if_neg h8]
 rcases B96 l d.2.1 with c|⟨i,ei,hi⟩
 ·simp only[k1,zH,zA,if_false,zD c,zB,if_pos c]
 have z:¬((i:Int)<0):=by omega
 simp only[ei,k1,zH,zA,if_false,zK z,if_neg z,D1 hi,zB,zE,getD_at hi]
 have hx:=hs.2 _ (zL hi)
 generalize l[i]=x at hx
 have hc:=hx.2.1.1
 have hk:=hx.2.2.1
 have h2':∀s,B2h n x.1 x.2.1 x.2.2 s=some (D4 x.2.1 s):=fun s=>h2 _ _ _ _ hc
 simp only[h2',h3 _ _ hk,zC,B4h]
 by_cases k3:d.1=3
 ·obtain⟨c,hcs,_⟩:=C2m hd k3
  simp only[k3,zI,zB,if_true,hcs,List.length_singleton,E0j,Int.toNat_zero,List.getD_cons_zero,C1v,show¬(3:Int)=5 by decide,show¬(3:Int)=4 by decide,if_false]
  split
  ·rfl
  ·by_cases h8:x.2.1.length=8
   ·rw[if_pos (by omega),if_pos h8]
   ·rw[if_neg (by omega),if_neg h8]
 by_cases k4:d.1=4
 ·simp only[k4,show¬(4:Int)=3 by decide,show¬(4:Int)=5 by decide,zH,zI,zB,zA,if_true,if_false,C1v]
  split
  ·rfl
  ·cases D46 x.2.2 d.2.2.2.2.1<;>rfl
 by_cases k5:d.1=5
 ·simp only[k5,show¬(5:Int)=3 by decide,show¬(5:Int)=4 by decide,zH,zI,zB,zA,if_true,if_false,C1v]
  split
  ·rfl
  ·split<;>rfl
 ·simp only[k3,k4,k5,zH,zA,if_false]
theorem C5i:EV fun n=>∀l:B25,B8z 1048576 l→C1g n l=some l:=(C4o.and (EV.gt 1048577)).up fun n ⟨h,hn⟩ l hs=>by
 have hl:=hs.1
 simp only[C1g]
 refine(C33 l id (fun j k acc=>B6v n j l (l.length:Int) (k:Int) [] acc) (fun j acc=>?_) (fun j k acc hk ha=>?_) l n 0 [] rfl (by omega) (by omega) rfl).trans (by simp)
 ·simp only[B6v,D2,zP,zH,zA]
 ·have e:=h l[k] (hs.2 _ (zL hk))
  have r3:∀x:C1,room (acc.length+[x].length) 64=true:=fun x=>by simp only[room,zG,zW,zX];omega
  simp only[B6v,D2,zD hk,D1 hk,zE,getD_at hk,zB,D3 hk (by omega),e,zC,r3,id]
theorem C5f:EV fun n=>∀l:B25,B8z 1048576 l→C16 n l=some l:=(C3m.and (EV.gt 1048577)).up fun n ⟨h,hn⟩ l hs=>by
 have hl:=hs.1
 simp only[C16]
 refine(C33 l id (fun j k acc=>B6t n j l (l.length:Int) (k:Int) [] acc) (fun j acc=>?_) (fun j k acc hk ha=>?_) l n 0 [] rfl (by omega) (by omega) rfl).trans (by simp)
 ·simp only[B6t,D2,zP,zH,zA]
 ·have e:=h l[k] (hs.2 _ (zL hk))
  have r3:∀x:C1,room (acc.length+[x].length) 64=true:=fun x=>by simp only[room,zG,zW,zX];omega
  simp only[B6t,D2,zD hk,D1 hk,zE,getD_at hk,zB,D3 hk (by omega),e,zC,r3,id]
def B7q (t:C1):B25→B25
 |[]=>[t]
 |x::l=>if B87 t.1 x.1=true then t::x::l else x::B7q t l
def D4c (t:C1):B25→Bool→B25→B25
 |[],d,acc=>if d=true then acc else acc++[t]
 |x::l,d,acc=>if d=false∧B87 t.1 x.1=true then D4c t l true (acc++[t]++[x])else D4c t l d (acc++[x])
theorem D78 (t:C1):∀(l:B25) (acc:B25),D4c t l true acc=acc++l
 |[],acc=>by simp[D4c]
 |x::l,acc=>by
  simp only[D4c,Bool.true_eq_false,false_and,if_false]
  rw[D78 t l];simp
theorem E05 (t:C1):∀(l:B25) (acc:B25),D4c t l false acc=acc++B7q t l
 |[],acc=>by simp[D4c,B7q]
 |x::l,acc=>by
  simp only[D4c,true_and,B7q]
  split
  ·rw[D78];simp
  ·rw[E05 t l];simp
theorem D4k:EV fun n=>∀(l:B25) (x:C1),l.length≤1048576→C3w n l x.1 x.2.1 x.2.2=some (B7q x l):=(EV.gt 1048577).up fun n hn l x hl=>by
 have key:∀(t:B25) (j k:Nat) (d:Bool) (acc:B25),l.drop k=t→k≤l.length→t.length<j→acc.length≤k+d.toNat→
   B4v n j d l (l.length:Int) (k:Int) x.1 x.2.1 x.2.2 [] acc=some (D4c x t d acc):=by
  intro t
  induction t with
  |nil=>
   intro j k d acc hdr hk hj ha
   obtain⟨j,rfl⟩:∃i,j=i+1:=⟨j - 1,by simp at hj;omega⟩
   have:k=l.length:=by
    rcases zE1 k l.length with h'|h'
    ·rw[zC1 h']at hdr;cases hdr
    ·omega
   subst this
   have hd1:d.toNat≤1:=by cases d<;>decide
   have r:room (acc.length+[x].length) 64=true:=by simp only[room,zG,zW,zX];omega
   simp only[B4v,D2,zP,zH,zA,D4c]
   rw[show [(x.1,(x.2.1,x.2.2))]=[x]from rfl,r]
   cases d<;>rfl
  |cons y t ih=>
   intro j k d acc hdr hk hj ha
   obtain⟨j,rfl⟩:∃i,j=i+1:=⟨j - 1,by simp at hj;omega⟩
   obtain⟨h2,h3,h4⟩:=B3d hdr C19
   rw[getD_at h2]at h3
   have hd1:d.toNat≤1:=by cases d<;>decide
   have hj':t.length<j:=by simp at hj;omega
   have r1:room (acc.length+[x].length) 64=true:=by simp only[room,zG,zW,zX];omega
   have r2:room ((acc++[x]).length+[y].length) 64=true:=by simp only[room,zG,List.length_append,zW,zX];omega
   have r3:room (acc.length+[y].length) 64=true:=by simp only[room,zG,zW,zX];omega
   simp only[B4v,D2,zD h2,D1 h2,zE,getD_at h2,h3,zB,D3 h2 (by omega),D4c]
   rw[show [(x.1,(x.2.1,x.2.2))]=[x]from rfl,show [(y.1,(y.2.1,y.2.2))]=[y]from rfl,r1,r2,r3]
   simp only[zB]
   have i1:=ih j (k+1) d (acc++[y]) h4 (by omega) hj'
   cases d
   ·simp only[zU,zB,true_and]
    cases c:B87 x.1 y.1
    ·rw[show Op.bytesLess x.1.toList y.1.toList=false from c,zA,if_neg (by simp)]
     exact i1 (by simp at ha⊢;omega)
    ·rw[show Op.bytesLess x.1.toList y.1.toList=true from c,zB,if_pos rfl]
     exact ih j (k+1) true (acc++[x]++[y]) h4 (by omega) hj' (by simp at ha⊢;omega)
   ·simp only[zT,zA,Bool.true_eq_false,false_and,if_false]
    exact i1 (by simp at ha⊢;omega)
 simp only[C3w]
 refine(key l n 0 false [] rfl (by omega) (by omega) (by simp)).trans ?_
 rw[E05];rfl
def B8k (d:B2w)(c:B4n):B4n:=if d.1=5∧c.1=d.2.2.2.2.1 then(d.2.2.2.2.2,c.2)else c
def B4d (d:B2w)(k:ByteArray):ByteArray:=if d.1=5∧k=d.2.2.2.2.1 then d.2.2.2.2.2 else k
def D3y (d:B2w)(c:B4n):Bool:=decide (d.1=4)&&decide (c.1=d.2.2.2.2.1)
def B2y (x:C1)(d:B2w):C1:=(x.1,((x.2.1.filter fun c=> !D3y d c).map (B8k d)++(if d.1=3 then [d.2.2.1.getD 0 CZ]else []),x.2.2.map (B4d d)))
theorem C0e {α β:Type}(p:α→Bool)(f:α→β):∀(l:List α) (k:Nat) (acc:List β),B7p (fun _ x s=>if p x=true then s else s++[f x]) k l acc=acc++(l.filter fun x=> !p x).map f
 |[],k,acc=>by simp[B7p]
 |x::l,k,acc=>by
  simp only[B7p]
  rw[C0e p f l]
  by_cases c:p x=true
  ·simp[c]
  ·simp[c]
theorem D0q:EV fun n=>∀(x:C1) (d:B2w),B2j 1048576 x→B3m d=true→C1f n x.1 x.2.1 x.2.2 d.1 d.2.1 d.2.2.1 d.2.2.2.1 d.2.2.2.2.1 d.2.2.2.2.2=some (B2y x d):=(EV.gt 1048577).up fun n hn x d hs hd=>by
 have hcl:=hs.2.1.1
 have hkl:=hs.2.2.1
 have hL2:∀(cs:B2g),cs.length≤1048576→∀(t:List ByteArray) (j k:Nat) (s:List ByteArray),s.drop k=t→k≤s.length→t.length<j→s.length≤1048576→
   B3x n j (s.length:Int) (k:Int) d.1 d.2.1 d.2.2.1 d.2.2.2.1 d.2.2.2.2.1 d.2.2.2.2.2 E0 [] [] x.1 cs s=some (x.1,(cs++(if d.1=3 then [d.2.2.1.getD 0 CZ]else []),s.take k++t.map (B4d d))):=by
  intro cs hcs t
  induction t with
  |nil=>
   intro j k s hdr hk hj hsl
   obtain⟨j,rfl⟩:∃i,j=i+1:=⟨j - 1,by simp at hj;omega⟩
   have:k=s.length:=by
    rcases zE1 k s.length with h'|h'
    ·rw[zC1 h']at hdr;cases hdr
    ·omega
   subst this
   simp only[B3x,D2,zP,zH,zA,B2z,List.take_length,List.map_nil,zH1]
   by_cases k3:d.1=3
   ·obtain⟨c,hc,_⟩:=C2m hd k3
    simp only[k3,hc,zI,zB,if_true,List.length_singleton,E0j,Int.toNat_zero,List.getD_cons_zero]
    have r':room (cs.length+1) 64=true:=by simp only[room,zG];omega
    rw[show [(c.1,(c.2.1,(c.2.2.1,(c.2.2.2.1,(c.2.2.2.2.1,(c.2.2.2.2.2.1,c.2.2.2.2.2.2))))))]=[c]from rfl,r'];rfl
   ·simp only[k3,zH,zA,if_false,zH1]
  |cons y t ih=>
   intro j k s hdr hk hj hsl
   obtain⟨j,rfl⟩:∃i,j=i+1:=⟨j - 1,by simp at hj;omega⟩
   obtain⟨h2,h3,h4⟩:=B3d hdr E0
   rw[getD_at h2]at h3
   have hj':t.length<j:=by simp at hj;omega
   simp only[B3x,D2,zD h2,D1 h2,zE,getD_at h2,h3,zB,D3 h2 (by omega),B2z,B41]
   have hset:∀z:ByteArray,(s.set k z).take (k+1)=s.take k++[z]:=fun z=>by
    rw[List.take_add_one,List.take_set_of_le (by omega),List.getElem?_set_self h2];rfl
   have htk:s.take (k+1)=s.take k++[y]:=by rw[List.take_add_one,List.getElem?_eq_getElem h2,h3];rfl
   by_cases k5:d.1=5
   ·by_cases e:y=d.2.2.2.2.1
    ·have:=ih j (k+1) (s.set k d.2.2.2.2.2) (by rw[List.drop_set_of_lt (by omega)];exact h4) (by simp;omega) hj' (by simpa using hsl)
     rw[List.length_set,hset]at this
     simp only[k5,e,zI,zB,List.map_cons,B4d,and_self,if_true]at this⊢
     rw[this];simp[B4d]
    ·have:=ih j (k+1) s h4 (by omega) hj' hsl
     rw[htk]at this
     simp only[k5,e,zI,zH,zB,zA,List.map_cons,B4d,and_false,if_false]at this⊢
     rw[this];simp[B4d]
   ·have:=ih j (k+1) s h4 (by omega) hj' hsl
    rw[htk]at this
    simp only[k5,zH,zA,List.map_cons,B4d,false_and,if_false]at this⊢
    rw[this];simp[B4d]
 have r1:room (([]:List ByteArray).length+x.2.2.length) 16=true:=by simp only[room,zG,zX];omega
 simp only[C1f,r1,zB,List.nil_append]
 refine(B8a x.2.1 (fun _ c s=>if D3y d c=true then s else s++[B8k d c]) (fun j k acc=>B35 n j x.2.1 (x.2.1.length:Int) (k:Int) d.1 d.2.1 d.2.2.1 d.2.2.2.1 d.2.2.2.2.1 d.2.2.2.2.2 E0 [] [] x.1 acc x.2.2)
  (fun acc=>some (x.1,(acc++(if d.1=3 then [d.2.2.1.getD 0 CZ]else []),x.2.2.map (B4d d)))) (fun k s=>s.length≤k) (fun k hk s h=>?_) (fun j acc hacc=>?_) (fun j k acc hk hacc=>?_) x.2.1 n 0 [] rfl (by omega) (by omega) (Nat.le_refl 0)).trans ?_
 ·split
  ·omega
  ·rw[List.length_append];simp only[zW,zX];omega
 ·simp only[B35,D2,zP,zH,zA]
  have:=hL2 acc (by omega) x.2.2 n 0 x.2.2 rfl (by omega) (by omega) hkl
  rw[List.take_zero,List.nil_append]at this
  exact this
 ·have r:∀c:B4n,room (acc.length+[c].length) 64=true:=fun c=>by simp only[room,zG,zW,zX];omega
  simp only[B35,D2,zD hk,D1 hk,zE,getD_at hk,zB,D3 hk (by omega),B2z,B41,D3y,B8k]
  generalize x.2.1[k]=c
  simp only[r,zB]
  by_cases k4:d.1=4
  ·by_cases e:c.1=d.2.2.2.2.1
   ·simp only[k4,e,zI,zB,Bool.and_self,if_true]
   ·simp only[k4,e,zI,zH,zB,zA,Bool.and_false,Bool.false_eq_true,if_false,show¬(4:Int)=5 by decide,false_and]
  ·by_cases k5:d.1=5
   ·by_cases e:c.1=d.2.2.2.2.1
    ·simp only[k5,e,show¬(5:Int)=4 by decide,zH,zI,zB,zA,Bool.false_and,Bool.false_eq_true,if_false,and_self,if_true]
    ·simp only[k5,e,show¬(5:Int)=4 by decide,zH,zI,zB,zA,Bool.false_and,Bool.false_eq_true,if_false,and_false]
   ·simp only[k4,k5,zH,zA,Bool.false_and,Bool.false_eq_true,if_false,false_and]
 ·rw[C0e];rfl
def B49 (l:B25)(d:B2w):B25:=
 if d.1=1 then B7q (d.2.1,(d.2.2.1,d.2.2.2.1)) l else
 if d.1=2 then B2b l (tAt l d.2.1).toNat else l.set (tAt l d.2.1).toNat (B2y (l.getD (tAt l d.2.1).toNat C19) d)
def B39 (l:B25)(d:B2w):B25×(Int×Unit):=
 if B5r l=true∧B3m d=true then(if B98 l d=0 then(B49 l d,(0,()))else([],(B98 l d,())))else([],(1,()))
theorem C4n:EV fun n=>∀(l:B25) (d:B2w),B8z 1048576 l→C1r 1048576 d→C0a n l d.1 d.2.1 d.2.2.1 d.2.2.2.1 d.2.2.2.2.1 d.2.2.2.2.2=some (B39 l d):=(C8q.and (C44.and (C46.and (C5i.and (C4o.and (D4k.and (D1w.and D0q))))))).up fun n ⟨h1,h2,h3,h4,h5,h6,h7,h8⟩ l d hl hd=>by
 have e3:=h3 l d.2.1 hl.1
 rw[show idx (fun t:C1=>decide (t.1=d.2.1)) l=tAt l d.2.1 from rfl]at e3
 simp only[C0a,h1 l hl,h2 d hd,e3,h4 l hl,zC,B39,B2z,B4a]
 cases hc:B5r l
 ·simp
 cases hk:B3m d
 ·simp
 have hlen:=(B9o hc).1
 simp only[zT,zA,and_self,if_true]
 have hbig:=hl.1
 by_cases k1:d.1=1
 ·have e5:=h5 (d.2.1,(d.2.2.1,d.2.2.2.1)) ⟨hd.1,hd.2.1,hd.2.2.1⟩
  have e6:=h6 l (d.2.1,(d.2.2.1,d.2.2.2.1)) hbig
  dsimp only at e5 e6
  simp only[k1,zI,zB,e5,e6,zC,B98,B49,if_true,C1v]
  by_cases c:0≤tAt l d.2.1
  ·simp only[if_pos c];rfl
  ·simp only[if_neg c]
   by_cases h6':l.length=6
   ·rw[if_pos (by omega),if_pos h6'];rfl
   ·rw[if_neg (by omega),if_neg h6'];rfl
 simp only[k1,zH,zA,B98,B49,if_false]
 rcases B96 l d.2.1 with c|⟨i,ei,hi⟩
 ·simp only[zD c,zB,if_pos c];rfl
 have z:¬((i:Int)<0):=by omega
 have e7:=h7 l[i] d (hl.2 _ (zL hi)) hk
 have e8:=h8 l[i] d (hl.2 _ (zL hi)) hk
 simp only[ei,zK z,zA,D1 hi,zB,zE,getD_at hi,e7,e8,zC,if_neg z]
 by_cases cf:B4h l[i] d=0
 ·simp only[cf,zI,zT,zA,if_true]
  by_cases k2:d.1=2
  ·have w:IntKind.wrap .i64 ((i:Int)+1)=((i+1:Nat):Int):=D3 hi (by omega)
   have q1:decide (0≤((0:Nat):Int)∧((0:Nat):Int)≤(i:Int)∧(i:Int)≤(l.length:Int))=true:=zD ⟨by omega,by omega,by omega⟩
   have q2:decide (0≤((i+1:Nat):Int)∧((i+1:Nat):Int)≤((l.length:Nat):Int)∧((l.length:Nat):Int)≤(l.length:Int))=true:=zD ⟨by omega,by omega,by omega⟩
   have r1:room (([]:B25).length+((l.drop 0).take (i - 0)).length) 64=true:=by simp only[room,zG,zX,List.length_take];omega
   have t1:(l.drop (i+1)).take (l.length - (i+1))=l.drop (i+1):=List.take_of_length_le (by simp)
   have r2:room (([]++(l.drop 0).take (i - 0)).length+(l.drop (i+1)).length) 64=true:=by simp only[room,zG,List.nil_append,List.length_take,List.length_drop];omega
   simp only[k2,zI,zB,if_true,w,zE,Int.toNat_zero,q1,r1,q2,t1,r2]
   rw[List.nil_append,List.drop_zero,Nat.sub_zero];rfl
  ·simp only[k2,zH,zA,if_false]
 ·simp only[cf,zH,zU,zB,if_false]
theorem E1m {α:Type}{eb:Nat}{l:List α}{i:Nat}{r:α}(h:i≤l.length)(hr:room (l.length+1) eb=true):B1k eb l (i:Int) [r]=some (l.take i++[r]++l.drop i):=by
 unfold B1k
 rw[zD ⟨rfl,by omega,by omega⟩,hr];rfl
theorem E06 {α:Type}{l:List α}{i:Nat}(hi:i<l.length)(f:α→α)(h2:∀j (hj:j<l.length),j≠i→f l[j]=l[j]):l.set i (f l[i])=l.map f:=by
 refine List.ext_getElem (by simp) fun j h1 h3=>?_
 rw[List.getElem_set,List.getElem_map]
 split
 ·rename_i e;subst e;rfl
 ·rename_i e;exact(h2 j (by simpa using h1) (fun h=>e h.symm)).symm
theorem C4u {x:C1}(h:B27 x=true):∀i j (hi:i<x.2.1.length) (hj:j<x.2.1.length),x.2.1[i].1=x.2.1[j].1→i=j:=by
 intro i j hi hj e
 simp only[B27,zJ]at h
 have a1:=C0l h.1.2 hi
 have a2:=C0l h.1.2 hj
 simp only[zJ,zG]at a1 a2
 have:=a1.2
 rw[e,a2.2]at this
 omega
theorem D4g {cs:B2g}:∀{ks:B2f} {last:Int},(runs (B3s cs) ks last).isSome=true→∀k∈ks,last<D4 cs k
 |[],_,_,k,hk=>by cases hk
 |y::ks,last,h,k,hk=>by
  simp only[runs]at h
  unfold B3s at h
  split at h
  ·rename_i c
   rcases List.mem_cons.mp hk with e|e
   ·rw[e];exact c.1
   ·have:=D4g (last:=D4 cs y) h k e
    exact Int.lt_trans c.1 this
  ·cases h
theorem D4h {cs:B2g}:∀{ks:B2f} {last:Int},(runs (B3s cs) ks last).isSome=true→ks.Nodup
 |[],_,_=>List.Pairwise.nil
 |y::ks,last,h=>by
  simp only[runs]at h
  unfold B3s at h
  split at h
  ·rename_i c
   refine List.pairwise_cons.mpr ⟨fun k hk e=>?_,D4h (last:=D4 cs y) h⟩
   have:=D4g (last:=D4 cs y) h k hk
   rw[e]at this;exact Int.lt_irrefl _ this
  ·cases h
theorem D9t {x:C1}(h:B27 x=true):x.2.2.Nodup:=by
 simp only[B27,zJ]at h
 exact D4h h.2
theorem B83 (cs:B2g)(s:ByteArray):D4 cs s<0∨∃k:Nat,D4 cs s=(k:Int)∧∃hk:k<cs.length,cs[k].1=s:=by
 by_cases c:0≤D4 cs s
 ·obtain⟨k,e⟩:=Int.eq_ofNat_of_zero_le c
  obtain⟨hk,e2⟩:=C4w (fun c:B4n=>decide (c.1=s)) cs 0 k (by rw[zS];exact e)
  exact .inr ⟨k,e,hk,by simpa using e2⟩
 ·exact .inl (by omega)
theorem D73:EV fun n=>∀(c:B4n) (d:B2w),B8l n c.1 c.2.1 c.2.2.1 c.2.2.2.1 c.2.2.2.2.1 c.2.2.2.2.2.1 c.2.2.2.2.2.2 d=some (decide (c.1=d.2.2.2.2.1)):=EV.true.up fun n _ c d=>by
 simp only[B8l,B41]
theorem E0g:EV fun n=>∀(l:B2g) (d:B2w),l.length≤1048576→B2o n l d=some (D4 l d.2.2.2.2.1):=(D73.and (EV.gt 1048577)).up fun n ⟨h1,hn⟩ l d hl=>by
 rw[B2o]
 refine B8r (fun c:B4n=>decide (c.1=d.2.2.2.2.1)) l (fun j k=>B29 n j l d (l.length:Int) (k:Int)) (fun j=>?_) (fun j k hk=>?_) l n 0 rfl (by omega) (by omega)
 ·simp only[B29,D2,zP,zH,zA]
 ·simp only[B29,D2,zD hk,D1 hk,zE,getD_at hk,zB,D3 hk (by omega),h1,zC]
  exact B8q _ _
def B74 (l:B2g)(s:ByteArray):B2g:=l.filter fun c=> !decide (c.1=s)
theorem C3k (s:ByteArray):∀(l:B2g) (k:Nat),(idxFrom (fun c:B4n=>decide (c.1=s)) l k= -1∧B74 l s=l)∨∃m:Nat,m<l.length∧idxFrom (fun c:B4n=>decide (c.1=s)) l k=((k+m:Nat):Int)∧B74 l s=l.take m++B74 (l.drop (m+1)) s
 |[],k=> .inl ⟨rfl,rfl⟩
 |c::l,k=>by
  by_cases e:c.1=s
  ·refine .inr ⟨0,by simp,by simp[idxFrom,e],by simp[B74,e]⟩
  ·rcases C3k s l (k+1)with⟨h1,h2⟩|⟨m,h1,h2,h3⟩
   ·refine .inl ⟨by simp[idxFrom,e,h1],?_⟩
    simp only[B74,List.filter_cons,e,zH,zU,if_true]at h2⊢
    rw[h2]
   ·refine .inr ⟨m+1,by simp;omega,?_,?_⟩
    ·simp only[idxFrom,e,zH,zA]at h2⊢
     first
      |(rw[if_neg (by simp),h2];congr 1;omega)
      |(rw[h2];congr 1;omega)
    ·simp only[B74,List.filter_cons,e,zH,zU,if_true,List.take_succ_cons,List.drop_succ_cons,List.cons_append]at h3⊢
     rw[h3]
theorem E0f:EV fun n=>∀(l:B2g) (d:B2w),l.length≤1048576→B2i n l d=some (B74 l d.2.2.2.2.1):=(D73.and (E0g.and (EV.gt 1048578))).up fun n ⟨h1,h2,hn⟩ l d hl=>by
 have loop:∀(t:B2g) (j k i:Nat) (cur:B2g),cur.drop k=t→k≤cur.length→i≤k→t.length<j→cur.length≤1048576→
   V2 n j d (i:Int) (k:Int) cur=some (cur.take i++B74 t d.2.2.2.2.1):=by
  intro t
  induction t with
  |nil=>
   intro j k i cur hd hk hi hj hc
   obtain⟨j,rfl⟩:∃j',j=j'+1:=⟨j - 1,by omega⟩
   have:k=cur.length:=by have:=congrArg List.length hd;simp at this;omega
   subst this
   have q1:decide (0≤(i:Int)∧(i:Int)≤((cur.length:Nat):Int)∧((cur.length:Nat):Int)≤(cur.length:Int))=true:=zD ⟨by omega,by omega,by omega⟩
   have q2:∀z:B4n,decide (0≤((0:Nat):Int)∧((0:Nat):Int)≤(i:Int)∧(i:Int)≤((cur.take i++List.replicate (cur.length - i) z++cur.drop (i+(cur.length - i))).length:Int))=true:=fun z=>zD ⟨by omega,by omega,by simp;omega⟩
   simp only[V2,D2,zP,zH,zA,q1,zB,zE,q2]
   have:(cur.take i).length=i:=by simp;omega
   simp only[B74,List.filter_nil,zH1,Nat.sub_zero]
   rw[List.append_assoc,List.take_append_of_le_length (by omega),List.take_of_length_le (by omega)]
  |cons y t ih=>
   intro j k i cur hd hk hi hj hc
   obtain⟨j,rfl⟩:∃j',j=j'+1:=⟨j - 1,by omega⟩
   obtain⟨g2,g3,g4⟩:=B3d hd y
   have hx:cur[k]=y:=by simpa[List.getD,g2]using g3
   have hik:i<cur.length:=by omega
   simp only[V2,D2,zD g2,D1 g2,D1 hik,zE,getD_at g2,hx,zB,D3 g2 (by omega),D3 hik (by omega),h1,zC]
   by_cases h:y.1=d.2.2.2.2.1
   ·simp only[h,zI,zT,zA]
    rw[ih j (k+1) i cur g4 (by omega) (by omega) (by simp at hj;omega) hc]
    simp[B74,h]
   ·simp only[h,zH,zU,zB]
    rw[show(y.1,(y.2.1,(y.2.2.1,(y.2.2.2.1,(y.2.2.2.2.1,(y.2.2.2.2.2.1,y.2.2.2.2.2.2))))))=y from rfl]
    rw[ih j (k+1) (i+1) (cur.set i y) (by rw[List.drop_set_of_lt (by omega)];exact g4) (by simp;omega) (by omega) (by simp at hj;omega) (by simpa using hc)]
    have e:(cur.set i y).take (i+1)=cur.take i++[y]:=by
     rw[List.take_add_one,List.take_set_of_le (by omega),List.getElem?_set_self hik];rfl
    rw[e]
    simp[B74,h]
 rw[B2i,h2 l d hl]
 simp only[zC]
 rcases C3k d.2.2.2.2.1 l 0 with⟨g1,g2⟩|⟨m,g1,g2,g3⟩
 ·have:D4 l d.2.2.2.2.1= -1:=g1
  rw[this,g2];rfl
 ·have e:D4 l d.2.2.2.2.1=(m:Int):=by have:=g2;rw[zS]at this;exact this
  have ne:(((m:Nat):Int)==(-1:Int))=false:=by simp
  rw[e,ne,zA,D3 g1 (by omega),loop (l.drop (m+1)) n (m+1) m l rfl (by omega) (by omega) (by simp;omega) hl,g3]
theorem E0l {l:List ByteArray}(h:l.Nodup){i j:Nat}(hi:i<l.length)(hj:j<l.length)(e:l[i]=l[j]):i=j:=by
 have h':=List.pairwise_iff_getElem.mp h
 rcases zE1 i j with c|c
 ·exact absurd e (h' i j hi hj c)
 ·rcases zE1 j i with c2|c2
  ·exact absurd e.symm (h' j i hj hi c2)
  ·omega
theorem C2v {l:B25}{d:B2w}(h:B98 l d=0)(k1:¬d.1=1):∃i:Nat,tAt l d.2.1=(i:Int)∧∃hi:i<l.length,B4h l[i] d=0:=by
 simp only[B98,k1,if_false]at h
 rcases B96 l d.2.1 with c|⟨i,ei,hi⟩
 ·rw[if_pos c]at h;cases h
 ·have z:¬((i:Int)<0):=by omega
  rw[ei,if_neg z,zE,getD_at hi]at h
  exact⟨i,ei,hi,h⟩
theorem C4s {x:C1}{d:B2w}(k4:d.1=4):B2y x d=(x.1,(B74 x.2.1 d.2.2.2.2.1,x.2.2)):=by
 simp only[B2y,k4,show¬(4:Int)=3 by decide,if_false,zH1,B74]
 have e1:x.2.2.map (B4d d)=x.2.2:=by
  rw[show B4d d=id from funext fun k=>by simp[B4d,k4]];simp
 have e2:∀l:B2g,l.map (B8k d)=l:=fun l=>by
  rw[show B8k d=id from funext fun k=>by simp[B8k,k4]];simp
 rw[e1,e2]
 congr 2
 refine List.filter_congr fun c _=>?_
 simp[D3y,k4]
theorem C4r {x:C1}{d:B2w}(k3:d.1=3):B2y x d=(x.1,(x.2.1++[d.2.2.1.getD 0 CZ],x.2.2)):=by
 simp only[B2y,k3,if_true]
 have e1:x.2.2.map (B4d d)=x.2.2:=by
  rw[show B4d d=id from funext fun k=>by simp[B4d,k3]];simp
 have e2:∀l:B2g,l.map (B8k d)=l:=fun l=>by
  rw[show B8k d=id from funext fun k=>by simp[B8k,k3]];simp
 rw[e1,e2]
 congr 3
 exact List.filter_eq_self.mpr fun c _=>by simp[D3y,k3]
theorem C25 {x:C1}{d:B2w}(k5:d.1=5):B2y x d=(x.1,(x.2.1.map (B8k d),x.2.2.map (B4d d))):=by
 simp only[B2y,k5,show¬(5:Int)=3 by decide,if_false,zH1]
 congr 3
 exact List.filter_eq_self.mpr fun c _=>by simp[D3y,k5]
theorem D1q:EV fun n=>∀(l:B25) (d:B2w),B8z 1048576 l→C1r 1048576 d→C1y n l d.1 d.2.1 d.2.2.1 d.2.2.2.1 d.2.2.2.2.1 d.2.2.2.2.2=some (B39 l d):=(C8m.and (C41.and (C5g.and (C5f.and (C10.and (C4i.and (B8s.and (E0f.and (C38.and (EV.gt 100)))))))))).up fun n ⟨h1,h2,h3,h4,h5,h6,h7,h8,h9,hn⟩ l d hl hd=>by
 obtain⟨m,rfl⟩:∃m,n=m+1:=⟨n - 1,by omega⟩
 have e5:=h5 l d.2.1 hl.1
 rw[show idx (fun t:C1=>decide (t.1=d.2.1)) l=tAt l d.2.1 from rfl]at e5
 simp only[C1y,h1 l hl,h2 d hd,zC,B39,B2z,B4a]
 cases hc:B5r l
 ·simp
 cases hk:B3m d
 ·simp
 have hlen:=(B9o hc).1
 simp only[zT,zA,and_self,if_true,h3 l d hl hk,zC]
 by_cases hz:B98 l d=0
 rotate_left
 ·simp only[hz,zH,zU,zB,if_false]
 simp only[hz,zI,zT,zA,if_true,h4 l hl,e5,zC]
 by_cases k1:d.1=1
 ·simp only[k1,zI,zB,B49,if_true]
  have hno:∀t∈l,t.1≠d.2.1:=fun t ht e=>by
   have:=C78.mpr ⟨t,ht,e⟩
   simp only[B98,k1,if_true,if_pos this]at hz
   cases hz
  have h6':=h6 d hd
  rw[k1]at h6'
  have hins:∀k,k≤l.length→B1k 64 l (k:Int) [((d.2.1,(d.2.2.1,d.2.2.2.1)):C1)]=some (l.take k++[(d.2.1,(d.2.2.1,d.2.2.2.1))]++l.drop k):=fun k hk=>E1m hk (by simp only[room,zG];omega)
  have loop:∀(t:B25) (j k:Nat),l.drop k=t→k≤l.length→t.length<j→B63 (m+1) j (k:Int) 1 d.2.1 d.2.2.1 d.2.2.2.1 d.2.2.2.2.1 d.2.2.2.2.2 [] l=some (l.take k++B7q (d.2.1,(d.2.2.1,d.2.2.2.1)) t,(0,())):=by
   intro t
   induction t with
   |nil=>
    intro j k hdr hkl hj
    obtain⟨j,rfl⟩:∃i,j=i+1:=⟨j - 1,by simp at hj;omega⟩
    have:k=l.length:=by
     rcases zE1 k l.length with h'|h'
     ·rw[zC1 h']at hdr;cases hdr
     ·omega
    subst this
    simp only[B63,D2,zP,zH,zA,h6',zC,B31,hins _ (Nat.le_refl _)]
    simp[B7q]
   |cons y t ih=>
    intro j k hdr hkl hj
    obtain⟨j,rfl⟩:∃i,j=i+1:=⟨j - 1,by simp at hj;omega⟩
    obtain⟨g2,g3,g4⟩:=B3d hdr C19
    rw[getD_at g2]at g3
    have hy:y∈l:=by rw[←g3];exact zL g2
    have htk:l.take (k+1)=l.take k++[y]:=by rw[List.take_add_one,List.getElem?_eq_getElem g2,g3];rfl
    simp only[B63,D2,zD g2,D1 g2,zE,getD_at g2,g3,zB,D3 g2 (by omega),h6',zC,B31,hins k hkl]
    cases c:Op.bytesLess y.1.toList d.2.1.toList
    ·have hl:B87 d.2.1 y.1=true:=D75 (a:=y.1) c (hno y hy)
     rw[zA,hdr]
     simp only[B7q]
     rw[if_pos hl]
     simp
    ·have hl:B87 d.2.1 y.1=false:=D94 (a:=y.1) c
     rw[zB,ih j (k+1) g4 (by omega) (by simp at hj;omega),htk]
     simp only[B7q]
     rw[if_neg (by rw[hl];simp)]
     simp
  have:=loop l (m+1) 0 rfl (by omega) (by omega)
  rw[List.take_zero,List.nil_append]at this
  exact this
 obtain⟨i,ei,hi,hf⟩:=C2v hz k1
 have hx:=hl.2 _ (zL hi)
 have hcl:=hx.2.1.1
 have hkl:=hx.2.2.1
 have htab:=(B9o hc).2 _ (zL hi)
 simp only[k1,zH,zA,B49,if_false,ei,zE,getD_at hi]
 by_cases k2:d.1=2
 ·simp only[k2,zI,zB,if_true,B3y,D3 hi (by omega),E0z hi,zC]
 simp only[k2,zH,zA,if_false,D1 hi,zB]
 by_cases k3:d.1=3
 ·obtain⟨c,hcs,_⟩:=C2m hk k3
  have r1:room (l[i].2.1.length+1) 64=true:=by simp only[room,zG];omega
  simp only[k3,zI,zB,hcs,List.length_singleton,E0j,Int.toNat_zero,List.getD_cons_zero,r1,Nat.beq_refl,C4r k3]
 by_cases k4:d.1=4
 ·have e8:=h8 l[i].2.1 d hcl
  rw[show((d.1,(d.2.1,(d.2.2.1,(d.2.2.2.1,(d.2.2.2.2.1,d.2.2.2.2.2))))):B2w)=d from rfl]
  simp only[k3,k4,show¬(4:Int)=3 by decide,zH,zA,zI,zB,e8,zC,Nat.beq_refl,C4s k4]
 have k5:d.1=5:=by rcases C4v hk with h|h|h|h|h<;>first|exact h|exact absurd h (by assumption)
 simp only[k5,show¬(5:Int)=3 by decide,show¬(5:Int)=4 by decide,zH,zA,zI,zB]
 have h7':∀a ks s,B2h (m+1) a l[i].2.1 ks s=some (D4 l[i].2.1 s):=fun a ks s=>h7 _ _ _ _ hcl
 simp only[h7',zC]
 have hcol:¬D4 l[i].2.1 d.2.2.2.2.1<0:=fun h=>by
  simp only[B4h,k5,show¬(5:Int)=3 by decide,show¬(5:Int)=4 by decide,if_false,if_true]at hf
  split at hf
  ·cases hf
  ·first
    |(cases hf;done)
    |(rw[if_pos h]at hf;cases hf)
 rcases B83 l[i].2.1 d.2.2.2.2.1 with c|⟨q,eq,hq,hqn⟩
 ·exact absurd c hcol
 simp only[eq,D1 hq,zB,zE,getD_at hq]
 have hset:l[i].2.1.set q (d.2.2.2.2.2,l[i].2.1[q].2)=l[i].2.1.map (B8k d):=by
  have:=E06 hq (B8k d) fun j hj hne=>by
   simp only[B8k]
   rw[if_neg]
   rintro⟨_,e⟩
   exact hne (C4u htab j q hj hq (e.trans hqn.symm))
  rw[←this]
  congr 1
  simp only[B8k]
  rw[if_pos ⟨k5,hqn⟩]
 have hgs:∀x:C1,(l.set i x).getD i C19=x:=fun x=>by
  rw[getD_at (show i<(l.set i x).length by simpa using hi),List.getElem_set_self]
 rw[hset]
 have hgs':∀x:C1,(l.set i x).getD i (E0,([],[]))=x:=hgs
 simp only[hgs',h9 _ _ hkl,zC]
 by_cases ck:0≤idx (fun x=>decide (d.2.2.2.2.1=x)) l[i].2.2
 ·obtain⟨p,ep⟩:=Int.eq_ofNat_of_zero_le ck
  obtain⟨hp,ep2⟩:=C4w (fun x=>decide (d.2.2.2.2.1=x)) l[i].2.2 0 p (by rw[zS];exact ep)
  rw[zG]at ep2
  have hks:l[i].2.2.set p d.2.2.2.2.2=l[i].2.2.map (B4d d):=by
   have hnd:=D9t htab
   have:=E06 hp (B4d d) fun j hj hne=>by
    simp only[B4d]
    rw[if_neg]
    rintro⟨_,e⟩
    exact hne (E0l hnd hj hp (e.trans ep2))
   rw[←this]
   congr 1
   simp only[B4d]
   rw[if_pos ⟨k5,ep2.symm⟩]
  have z:(0:Int)≤(p:Int):=by omega
  simp only[ep,zD z,zB,D1 hp,zE,hks,List.set_set,C25 k5]
 ·have hno:∀y∈l[i].2.2,y≠d.2.2.2.2.1:=fun y hy e=>by
   have:=(D0o (fun x=>decide (d.2.2.2.2.1=x)) l[i].2.2).mp ck y hy
   simp[e]at this
  have hks:l[i].2.2.map (B4d d)=l[i].2.2:=by
   rw[List.map_congr_left (g:=id) fun y hy=>by simp[B4d,hno y hy]];simp
  simp only[zK ck,zA,C25 k5,hks]
theorem C4l (t y:C1):∀l:B25,y∈B7q t l→y=t∨y∈l
 |[],h=>by simpa[B7q]using h
 |x::l,h=>by
  simp only[B7q]at h
  split at h
  ·rcases List.mem_cons.mp h with e|e
   ·exact .inl e
   ·exact .inr e
  ·rcases List.mem_cons.mp h with e|e
   ·exact .inr (by rw[e];exact zM ..)
   ·exact(C4l t y l e).imp id (zF _)
theorem D1u (t:C1):∀l:B25,(B7q t l).length=l.length+1
 |[]=>rfl
 |x::l=>by
  simp only[B7q]
  split
  ·rfl
  ·simp[D1u t l]
theorem E0b {x:C1}{d:B2w}(hx:B2j 1048576 x)(ht:B27 x=true)(hd:C1r 1048576 d)(hk:B3m d=true):B2j 1048576 (B2y x d):=by
 obtain⟨l1,l2⟩:=E1o ht
 refine⟨hx.1,⟨?_,fun c hc=>?_⟩,⟨by simp only[B2y,List.length_map];omega,fun k hk'=>?_⟩⟩
 ·have h1:=List.length_filter_le (fun c=> !D3y d c) x.2.1
  simp only[B2y,List.length_append,List.length_map]
  split<;>simp<;>omega
 ·simp only[B2y]at hc
  rcases zY.mp hc with hc|hc
  ·obtain⟨c0,hc0,rfl⟩:=List.mem_map.mp hc
   have hs:=hx.2.1.2 c0 (List.mem_filter.mp hc0).1
   unfold B8k
   split
   ·exact⟨hd.2.2.2.2,hs.2⟩
   ·exact hs
  ·split at hc
   ·rename_i k3
    obtain⟨c1,hcs,_⟩:=C2m hk k3
    have:=hd.2.1.2
    rw[hcs]at hc this
    simp only[List.getD_cons_zero,zF1]at hc
    rw[hc];exact this c1 (by simp)
   ·cases hc
 ·obtain⟨k0,hk0,rfl⟩:=List.mem_map.mp hk'
  have hs:=hx.2.2.2 k0 hk0
  unfold B4d
  split
  ·exact hd.2.2.2.2
  ·exact hs
theorem D1m {l:B25}{d:B2w}(hl:B8z 1048576 l)(hd:C1r 1048576 d):B8z 1048576 (B39 l d).1:=by
 unfold B39
 split
 ·rename_i h
  obtain⟨hc,hk⟩:=h
  have h6:=(B9o hc).1
  split
  ·rename_i hz
   simp only[B49]
   split
   ·refine⟨by rw[D1u];omega,fun t ht=>?_⟩
    rcases C4l _ _ _ ht with e|e
    ·rw[e];exact⟨hd.1,hd.2.1,hd.2.2.1⟩
    ·exact hl.2 t e
   ·rename_i k1
    obtain⟨i,ei,hi,_⟩:=C2v hz k1
    split
    ·exact⟨Nat.le_trans (C0u _ _) hl.1,fun t ht=>hl.2 t (C0v ht)⟩
    ·rw[ei,zE,getD_at hi]
     refine⟨by rw[List.length_set];exact hl.1,fun t ht=>?_⟩
     rcases List.mem_or_eq_of_mem_set ht with e|e
     ·exact hl.2 t e
     ·rw[e];exact E0b (hl.2 _ (zL hi)) ((B9o hc).2 _ (zL hi)) hd hk
  ·exact⟨Nat.zero_le _,fun t ht=>by cases ht⟩
 ·exact⟨Nat.zero_le _,fun t ht=>by cases ht⟩
def B76 (x:C1)(d:B2w)(r:B3q):B3q:=
 if d.1=4 then B2b r (D4 x.2.1 d.2.2.2.2.1).toNat else if d.1=3 then r++[(d.2.2.1.getD 0 CZ).2.2.2.2]else r
def B4t (x:C1)(l:A7d)(d:B2w):A7d×(Int×Unit):=
 if B2r x l=true∧B3m d=true∧d.2.1=x.1∧d.1≠1 then
  (if B4h x d=0 then(if d.1=2 then []else l.map (B76 x d),(0,()))else([],(B4h x d,())))else([],(1,()))
theorem E24 {x:C1}{s:ByteArray}(h:s=x.1):tAt [x] s=0:=by
 subst h
 simp[tAt,idx,idxFrom]
theorem D70 {x:C1}{d:B2w}(h:d.2.1=x.1)(k1:¬d.1=1):B98 [x] d=B4h x d:=by
 simp only[B98,k1,if_false,E24 h]
 rfl
theorem E0a {x:C1}(h:B27 x=true):B5r [x]=true:=by
 simp[B5r,B3a,B3u,h]
theorem C3p {x:C1}{d:B2w}(k4:d.1=4)(hf:B4h x d=0):∃p:Nat,D4 x.2.1 d.2.2.2.2.1=(p:Int)∧p<x.2.1.length:=by
 rcases B83 x.2.1 d.2.2.2.2.1 with c|⟨p,ep,hp,_⟩
 ·simp only[B4h,k4,show¬(4:Int)=3 by decide,if_false,if_true,if_pos c]at hf
  cases hf
 ·exact⟨p,ep,hp⟩
theorem C70 {α:Type}:∀(t:List α) (k:Nat) (acc:List α),B7p (fun _ x (s:List α)=>s++[x]) k t acc=acc++t
 |[],k,acc=>by simp[B7p]
 |x::t,k,acc=>by
  simp only[B7p]
  rw[C70 t];simp
theorem C26 {α S:Type}{f g:Nat→α→S→S}(h:∀k x s,f k x s=g k x s):∀(t:List α) (k:Nat) (s:S),B7p f k t s=B7p g k t s
 |[],_,_=>rfl
 |x::t,k,s=>by
  simp only[B7p]
  rw[h,C26 h t]
theorem D74 {α S:Type}:∀(t:List α) (k:Nat) (s:S),B7p (fun _ _ (s:S)=>s) k t s=s
 |[],_,_=>rfl
 |x::t,k,s=>D74 t (k+1) s
theorem D2w:EV fun n=>∀(x:C1) (l:A7d) (d:B2w),B2j 1048576 x→B34 1048576 l→C1r 1048576 d→C2r n x.1 x.2.1 x.2.2 l d.1 d.2.1 d.2.2.1 d.2.2.2.1 d.2.2.2.2.1 d.2.2.2.2.2=some (B4t x l d):=(B7v.and (C44.and (C4n.and (B91.and (EV.gt 1048577))))).up fun n ⟨h1,h2,h3,h4,hn⟩ x l d hx hl hd=>by
 have e3:=h3 [x] d ⟨by simp,fun t ht=>by rw[zF1.mp ht];exact hx⟩ hd
 simp only[C2r,h1 x l hx hl.1,h2 d hd,h4 _ _ _ _ hx.2.1.1,zC,B41,B2z,B4a,B4t]
 rw[show [(x.1,(x.2.1,x.2.2))]=[x]from rfl,e3]
 cases hr:B2r x l
 ·simp
 cases hk:B3m d
 ·simp
 simp only[zT,zA]
 by_cases hn1:d.2.1=x.1
 rotate_left
 ·simp[hn1]
 by_cases k1:d.1=1
 ·simp[hn1,k1]
 have ht:=(B3w hr).1
 have hlen:=(B3w hr).2.1
 simp only[hn1,k1,zI,zH,zT,zA,zC,ne_eq,not_false_eq_true,and_self,if_true,B39,E0a ht,hk,D70 hn1 k1]
 by_cases hf:B4h x d=0
 rotate_left
 ·simp only[hf,zH,zU,zB,if_false]
 simp only[hf,zI,zT,zA,if_true]
 have hL2:∀(k0:Int→List (List (Int×(Int×ByteArray)))→Int→Int→Int→ByteArray→List (ByteArray×(Int×(Bool×(Bool×(Int×(Int×ByteArray))))))→List ByteArray→ByteArray→ByteArray→List (List (Int×(Int×ByteArray)))→Option ((List (List (Int×(Int×ByteArray))))×(Int×Unit)))
   (r:B3q) (k:Nat) (acc:A7d),r.length=x.2.1.length→k<60→acc.length≤60→
   B3z n k0 n (D4 x.2.1 d.2.2.2.2.1) l (l.length:Int) (k:Int) r (r.length:Int) ((0:Nat):Int) d.1 x.1 d.2.2.1 d.2.2.2.1 d.2.2.2.2.1 d.2.2.2.2.2 acc []=
    k0 (D4 x.2.1 d.2.2.2.2.1) l (l.length:Int) ((k+1:Nat):Int) d.1 x.1 d.2.2.1 d.2.2.2.1 d.2.2.2.2.1 d.2.2.2.2.2 (if d.1=2 then acc else acc++[B76 x d r]):=by
  intro k0 r k acc hrl hk60 hacc
  have hcl:=hx.2.1.1
  refine(B8a r (fun i v (s:B3q)=>if d.1=4∧(i:Int)=D4 x.2.1 d.2.2.2.2.1 then s else s++[v]) (fun j i s=>B3z n k0 j (D4 x.2.1 d.2.2.2.2.1) l (l.length:Int) (k:Int) r (r.length:Int) (i:Int) d.1 x.1 d.2.2.1 d.2.2.2.1 d.2.2.2.2.1 d.2.2.2.2.2 acc s)
   (fun s=>k0 (D4 x.2.1 d.2.2.2.2.1) l (l.length:Int) ((k+1:Nat):Int) d.1 x.1 d.2.2.1 d.2.2.2.1 d.2.2.2.2.1 d.2.2.2.2.2 (if d.1=2 then acc else acc++[s++(if d.1=3 then [(d.2.2.1.getD 0 CZ).2.2.2.2]else [])]))
   (fun i s=>s.length≤i) (fun i hi s hs=>?_) (fun j s hs=>?_) (fun j i s hi hs=>?_) r n 0 [] rfl (by omega) (by omega) (Nat.le_refl 0)).trans ?_
  ·split
   ·omega
   ·rw[List.length_append];simp only[zW,zX];omega
  ·have w:IntKind.wrap .i64 ((k:Int)+1)=((k+1:Nat):Int):=by rw[wrap64]<;>omega
   have r2:∀z:B3q,room (acc.length+[z].length) 24=true:=fun z=>by simp only[room,zG,zW,zX];omega
   simp only[B3z,D2,zP,zH,zA,B2z,B4a,r2,zB,w]
   by_cases k3:d.1=3
   ·obtain⟨c,hcs,_⟩:=C2m hk k3
    have r1:room (s.length+1) 32=true:=by simp only[room,zG];omega
    simp only[k3,zI,zB,hcs,List.length_singleton,E0j,Int.toNat_zero,List.getD_cons_zero,r1,show¬(3:Int)=2 by decide,zH,zU,if_false,if_true]
   ·by_cases k2:d.1=2
    ·simp only[k2,show¬(2:Int)=3 by decide,zH,zI,zA,zT,if_true]
    ·simp only[k3,k2,zH,zA,zU,zB,if_false,zH1]
  ·have r1:∀z:B6p,room (s.length+[z].length) 32=true:=fun z=>by simp only[room,zG,zW,zX];omega
   simp only[B3z,D2,zD hi,D1 hi,zE,getD_at hi,zB,D3 hi (by omega),B4a]
   rw[show [(r[i].1,(r[i].2.1,r[i].2.2))]=[r[i]]from rfl,r1]
   by_cases k4:d.1=4
   ·by_cases e:(i:Int)=D4 x.2.1 d.2.2.2.2.1
    ·simp only[k4,e,zI,zT,zA,and_self,if_true]
    ·simp only[k4,e,zI,zH,zT,zU,zA,zB,and_false,if_false]
   ·simp only[k4,zH,zU,zB,false_and,if_false]
  ·congr 1
   by_cases k2:d.1=2
   ·rw[if_pos k2,if_pos k2]
   rw[if_neg k2,if_neg k2]
   congr 2
   unfold B76
   by_cases k4:d.1=4
   ·obtain⟨p,ep,hp⟩:=C3p k4 hf
    rw[if_pos k4,if_neg (by rw[k4];decide),zH1,ep,zE]
    rw[C26 (g:=fun i v (s:B3q)=>if i=p then s else s++[v]) (fun i v s=>by
     simp only[k4,true_and]
     by_cases e:i=p
     ·rw[if_pos (by omega),if_pos e]
     ·rw[if_neg (by omega),if_neg e])]
    rw[C8z p r 0 [] (Nat.zero_le _)];rfl
   ·rw[if_neg k4,C26 (g:=fun _ v (s:B3q)=>s++[v]) (fun i v s=>by simp only[k4,false_and,if_false]),C70,List.nil_append]
    by_cases k3:d.1=3
    ·rw[if_pos k3,if_pos k3]
    ·rw[if_neg k3,if_neg k3,zH1]
 refine(B8a l (fun _ r (s:A7d)=>if d.1=2 then s else s++[B76 x d r]) (fun j k s=>B4g n j (D4 x.2.1 d.2.2.2.2.1) l (l.length:Int) (k:Int) d.1 x.1 d.2.2.1 d.2.2.2.1 d.2.2.2.2.1 d.2.2.2.2.2 s) (fun s=>some (s,(0,())))
  (fun k s=>s.length≤k) (fun k hk' s hs=>?_) (fun j s hs=>?_) (fun j k s hk' hs=>?_) l n 0 [] rfl (by omega) (by omega) (Nat.le_refl 0)).trans ?_
 ·split
  ·omega
  ·rw[List.length_append];simp only[zW,zX];omega
 ·simp only[B4g,D2,zP,zH,zA]
 ·have:=hL2 (fun y58 y59 y60 y61 y62 y63 y64 y65 y66 y67 y68=>B4g n j y58 y59 y60 y61 y62 y63 y64 y65 y66 y67 y68) l[k] k s (B6u hr _ (zL hk')) (by omega) (by omega)
  simp only[B4g,D2,zD hk',D1 hk',zE,getD_at hk',zB]
  exact this
 ·congr 2
  by_cases k2:d.1=2
  ·rw[C26 (g:=fun _ _ (s:A7d)=>s) (fun k r s=>by rw[if_pos k2]),D74,if_pos k2]
  ·rw[C26 (g:=fun _ r (s:A7d)=>if false=true then s else s++[B76 x d r]) (fun k r s=>by rw[if_neg k2];simp),C0e (fun _=>false) (B76 x d),if_neg k2]
   rw[List.nil_append]
   congr 1
   exact List.filter_eq_self.mpr fun _ _=>rfl
theorem D2s:EV fun n=>∀(x:C1) (l:A7d) (d:B2w),B2j 1048576 x→B34 1048576 l→C1r 1048576 d→C2o n x.1 x.2.1 x.2.2 l d.1 d.2.1 d.2.2.1 d.2.2.2.1 d.2.2.2.2.1 d.2.2.2.2.2=some (B4t x l d):=(B9d.and (C41.and (C5g.and (B8s.and (B7t.and (EV.gt 1048577)))))).up fun n ⟨h1,h2,h3,h4,h5,hn⟩ x l d hx hl hd=>by
 obtain⟨m,rfl⟩:∃m,n=m+1:=⟨n - 1,by omega⟩
 have h4':∀s,B2h (m+1) x.1 x.2.1 x.2.2 s=some (D4 x.2.1 s):=fun s=>h4 _ _ _ _ hx.2.1.1
 simp only[C2o,h1 x l hx hl.1,h2 d hd,h4',zC,B41,B2z,B4a,B4t]
 cases hr:B2r x l
 ·simp
 cases hk:B3m d
 ·simp
 have e3:=h3 [x] d ⟨by simp,fun t ht=>by rw[zF1.mp ht];exact hx⟩ hk
 rw[show [(x.1,(x.2.1,x.2.2))]=[x]from rfl,e3]
 simp only[zT,zA]
 by_cases hn1:d.2.1=x.1
 rotate_left
 ·simp[hn1]
 by_cases k1:d.1=1
 ·simp[hn1,k1]
 have hlen:=(B3w hr).2.1
 simp only[hn1,k1,zI,zH,zT,zA,zC,ne_eq,not_false_eq_true,and_self,if_true,D70 hn1 k1]
 by_cases hf:B4h x d=0
 rotate_left
 ·simp only[hf,zH,zU,zB,if_false]
 simp only[hf,zI,zT,zA,if_true,h5 l hl,zC]
 by_cases k2:d.1=2
 ·simp only[k2,zI,zB,if_true]
 simp only[k2,zH,zA,if_false]
 by_cases k3:d.1=3
 ·obtain⟨c,hcs,_⟩:=C2m hk k3
  simp only[k3,zI,zB]
  have loop:∀(t:A7d) (j k:Nat) (s:A7d),s.drop k=t→k≤s.length→t.length<j→s.length=l.length→(∀r∈t,r.length≤1048576)→
    B6q (m+1) j (l.length:Int) (k:Int) 3 x.1 d.2.2.1 d.2.2.2.1 d.2.2.2.2.1 d.2.2.2.2.2 s=some (s.take k++t.map (B76 x d),(0,())):=by
   intro t
   induction t with
   |nil=>
    intro j k s hdr hkl hj hsl _
    obtain⟨j,rfl⟩:∃i,j=i+1:=⟨j - 1,by simp at hj;omega⟩
    have:k=s.length:=by
     rcases zE1 k s.length with h'|h'
     ·rw[zC1 h']at hdr;cases hdr
     ·omega
    subst this
    simp only[B6q,hsl,D2,zP,zH,zA]
    rw[←hsl,List.take_length];simp
   |cons r t ih=>
    intro j k s hdr hkl hj hsl hrl
    obtain⟨j,rfl⟩:∃i,j=i+1:=⟨j - 1,by simp at hj;omega⟩
    obtain⟨g2,g3,g4⟩:=B3d hdr []
    have hk2:k<l.length:=by omega
    have hrr:=hrl r (zM ..)
    have r1:room (r.length+1) 32=true:=by simp only[room,zG];omega
    simp only[B6q,D2,zD hk2,D1 g2,zE,g3,zB,hcs,List.length_singleton,E0j,Int.toNat_zero,List.getD_cons_zero,r1,Nat.beq_refl,D3 hk2 (by omega)]
    have:=ih j (k+1) (s.set k (r++[c.2.2.2.2])) (by rw[List.drop_set_of_lt (by omega)];exact g4) (by simp;omega) (by simp at hj;omega) (by simpa using hsl) (fun r' hr'=>hrl r' (zF _ hr'))
    rw[hcs]at this
    rw[this]
    have hset:(s.set k (r++[c.2.2.2.2])).take (k+1)=s.take k++[r++[c.2.2.2.2]]:=by
     rw[List.take_add_one,List.take_set_of_le (by omega),List.getElem?_set_self g2];rfl
    rw[hset]
    simp[B76,k3,hcs]
  have:=loop l (m+1) 0 l rfl (by omega) (by omega) rfl fun r hr'=>by
   have:=B6u hr r hr'
   have:=hx.2.1.1
   omega
  rw[List.take_zero,List.nil_append]at this
  exact this
 by_cases k4:d.1=4
 ·obtain⟨p,ep,hp⟩:=C3p k4 hf
  simp only[k4,show¬(4:Int)=3 by decide,zH,zA,zI,zB,ep]
  have hcl:=hx.2.1.1
  have loop:∀(t:A7d) (j k:Nat) (s:A7d),s.drop k=t→k≤s.length→t.length<j→s.length=l.length→(∀r∈t,p<r.length)→
    B6r (m+1) j (p:Int) (l.length:Int) (k:Int) s=some (s.take k++t.map (B76 x d),(0,())):=by
   intro t
   induction t with
   |nil=>
    intro j k s hdr hkl hj hsl _
    obtain⟨j,rfl⟩:∃i,j=i+1:=⟨j - 1,by simp at hj;omega⟩
    have:k=s.length:=by
     rcases zE1 k s.length with h'|h'
     ·rw[zC1 h']at hdr;cases hdr
     ·omega
    subst this
    simp only[B6r,hsl,D2,zP,zH,zA]
    rw[←hsl,List.take_length];simp
   |cons r t ih=>
    intro j k s hdr hkl hj hsl hrl
    obtain⟨j,rfl⟩:∃i,j=i+1:=⟨j - 1,by simp at hj;omega⟩
    obtain⟨g2,g3,g4⟩:=B3d hdr []
    have hk2:k<l.length:=by omega
    have hrr:=hrl r (zM ..)
    have wp:IntKind.wrap .i64 ((p:Int)+1)=((p+1:Nat):Int):=by rw[wrap64]<;>omega
    simp only[B6r,D2,zD hk2,D1 g2,zE,g3,zB,B4j,wp,E0z hrr,zC,Nat.beq_refl,D3 hk2 (by omega)]
    rw[ih j (k+1) (s.set k (B2b r p)) (by rw[List.drop_set_of_lt (by omega)];exact g4) (by simp;omega) (by simp at hj;omega) (by simpa using hsl) (fun r' hr'=>hrl r' (zF _ hr'))]
    have hset:(s.set k (B2b r p)).take (k+1)=s.take k++[B2b r p]:=by
     rw[List.take_add_one,List.take_set_of_le (by omega),List.getElem?_set_self g2];rfl
    rw[hset]
    simp[B76,k4,ep]
  have:=loop l (m+1) 0 l rfl (by omega) (by omega) rfl fun r hr'=>by
   rw[B6u hr r hr'];exact hp
  rw[List.take_zero,List.nil_append]at this
  exact this
 ·simp only[k3,k4,zH,zA]
  rw[show B76 x d=id from funext fun r=>by simp[B76,k3,k4],List.map_id]
end Go.Proofs.YtalmhjlcjcnidaaGreat.Ev

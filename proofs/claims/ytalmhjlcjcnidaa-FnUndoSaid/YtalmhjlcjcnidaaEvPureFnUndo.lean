/- Words for the plain laws: what holds from some fuel on; steps of loops over lists; texts as lists of bytes. -/
import Derived.Test.YtalmhjlcjcnidaaEvFnFnUndo
import Derived.Test.YtalmhjlcjcnidaaEvLaw
set_option linter.all false
namespace Go.Proofs.Ytalmhjlcjcnidaa.Ev
open Go
set_option linter.unusedVariables false
def EV (p:Nat→Prop):Prop:=∃N,∀n,N≤n→p n
theorem EV.and {p q:Nat→Prop}(h1:EV p)(h2:EV q):EV fun n=>p n∧q n:=by
 obtain⟨N,h1⟩:=h1;obtain⟨M,h2⟩:=h2
 exact⟨max N M,fun n hn=>⟨h1 n (by omega),h2 n (by omega)⟩⟩
theorem EV.mono {p q:Nat→Prop}(h:EV p)(hpq:∀n,p n→q n):EV q:=by
 obtain⟨N,h⟩:=h;exact⟨N,fun n hn=>hpq n (h n hn)⟩
theorem EV.gt (k:Nat):EV fun n=>k<n:=⟨k+1,fun n hn=>hn⟩
theorem EV.true:EV fun _=>True:=⟨0,fun _ _=>trivial⟩
theorem EV.up {p q:Nat→Prop}(h:EV p)(hpq:∀n,p n→q (n+1)):EV q:=by
 obtain⟨N,h⟩:=h
 refine⟨N+1,fun n hn=>?_⟩
 obtain⟨m,rfl⟩:∃m,n=m+1:=⟨n - 1,by omega⟩
 exact hpq m (h m (by omega))
theorem EV.all {α:Type}{p:α→Nat→Prop}:∀{l:List α},(∀x∈l,EV (p x))→EV fun n=>∀x∈l,p x n
 |[],_=>⟨0,by simp⟩
 |a::l,h=>((h a (zM ..)).and (EV.all fun x hx=>h x (zF _ hx))).mono fun n hn x hx=>by
   rcases List.mem_cons.mp hx with rfl|hx
   ·exact hn.1
   ·exact hn.2 x hx
theorem wrap64 {x:Int}(h1: -9223372036854775808≤x)(h2:x≤9223372036854775807):IntKind.wrap .i64 x=x:=by
 have e:IntKind.wrap .i64 x=(if x % 18446744073709551616≥9223372036854775808 then x % 18446744073709551616 - 18446744073709551616 else x % 18446744073709551616):=by
  simp[IntKind.wrap,IntKind.bits,IntKind.signed]
 rw[e];split<;>omega
theorem C6o {k n:Nat}:inR (k:Int) n=decide (k<n):=by simp[inR]
theorem D5 {k n:Nat}(h:k<n):inR (k:Int) n=true:=by simp[C6o,h]
theorem V1 {k n:Nat}(h:k<n)(hn:n<4611686018427387904):IntKind.wrap .i64 ((k:Int)+(1:Int))=((k+1:Nat):Int):=by
 rw[wrap64]<;>omega
theorem R1 {k n:Nat}:(decide ((k:Int)<(n:Int)))=decide (k<n):=by simp
theorem getD_at {α:Type}{l:List α}{k:Nat}{z:α}(h:k<l.length):l.getD k z=l[k]:=by simp[List.getD,h]
theorem B35 (a b:Int):(a==b)=decide (a=b):=by by_cases h:a=b<;>simp[h]
theorem B6j (a b:Int):(a !=b)= !decide (a=b):=by by_cases h:a=b<;>simp[bne,h]
theorem B7f (s:ByteArray):s.data.toList.length=s.size:=by rw[zI1];rfl
theorem toList_data (s:ByteArray):s.toList=s.data.toList:=by
 have h:∀(n i:Nat) (r:List UInt8),s.size - i=n→ByteArray.toList.loop s i r=r.reverse++s.data.toList.drop i:=by
  intro n
  induction n with
  |zero=>
   intro i r h
   unfold ByteArray.toList.loop
   rw[if_neg (by omega)]
   have:s.data.toList.length≤i:=by rw[B7f];omega
   simp[List.drop_eq_nil_of_le this]
  |succ n ih=>
   intro i r h
   unfold ByteArray.toList.loop
   rw[if_pos (by omega),ih (i+1) _ (by omega)]
   have hi:i<s.data.toList.length:=by rw[B7f];omega
   rw[zC1 hi]
   have:s.get! i=s.data.toList[i]:=by
    have hi':i<s.data.size:=by simpa using hi
    rw[ByteArray.get!,Array.getElem!_eq_getD]
    simp only[Array.getD,hi',dite_true]
    rfl
   simp[this]
 simpa[ByteArray.toList]using h s.size 0 [] (by omega)
theorem C5c {a b:ByteArray}(h:a.data.toList=b.data.toList):a=b:=by
 obtain⟨⟨a⟩⟩:=a;obtain⟨⟨b⟩⟩:=b;simpa using h
theorem B7r (a b:ByteArray):(a.toList==b.toList)=decide (a=b):=by
 rw[toList_data,toList_data]
 by_cases h:a=b
 ·subst h;simp
 ·have:¬a.data.toList=b.data.toList:=fun e=>h (C5c e)
  rw[zK h];exact beq_eq_false_iff_ne.mpr this
theorem C6e (a b:ByteArray):(a.toList=b.toList)=(a=b):=by
 rw[toList_data,toList_data]
 exact propext ⟨C5c,fun h=>by rw[h]⟩
theorem B34 {α:Type}{l:List α}{k:Nat}{x:α}{t:List α}(h:l.drop k=x::t)(z:α):k<l.length∧l.getD k z=x∧l.drop (k+1)=t:=by
 have hk:k<l.length:=by
  rcases zE1 k l.length with h'|h'
  ·exact h'
  ·rw[List.drop_eq_nil_of_le h']at h;cases h
 rw[zC1 hk]at h
 obtain⟨h1,h2⟩:=List.cons.inj h
 exact⟨hk,by simp[List.getD,hk,h1],h2⟩
theorem along {α S T:Type}(l:List α)(L:Nat→Nat→S→T)(G:List α→S→T)(hnil:∀j s,L (j+1) l.length s=G [] s)
  (hcons:∀j k x t s,l.drop k=x::t→k<l.length→(∀s,L j (k+1) s=G t s)→L (j+1) k s=G (x::t) s):
  ∀(t:List α) (j k:Nat) (s:S),l.drop k=t→k≤l.length→t.length<j→L j k s=G t s
 |[],j+1,k,s,hd,hk,_=>by
  have:k=l.length:=by
   rcases zE1 k l.length with h'|h'
   ·rw[zC1 h']at hd;cases hd
   ·omega
  subst this;exact hnil j s
 |x::t,j+1,k,s,hd,hk,hj=>by
  have h:=B34 hd x
  exact hcons j k x t s hd h.1 fun s=>along l L G hnil hcons t j (k+1) s h.2.2 (by omega) (by simp at hj;omega)
theorem C75 {α S T:Type}(l:List α)(L:Nat→Nat→S→T)(G:List α→S→T){j:Nat}(hj:l.length<j)(s:S)(hnil:∀j s,L (j+1) l.length s=G [] s)
  (hcons:∀j k x t s,l.drop k=x::t→k<l.length→(∀s,L j (k+1) s=G t s)→L (j+1) k s=G (x::t) s):L j 0 s=G l s:=
 along l L G hnil hcons l j 0 s rfl (by omega) hj
theorem C7k {s:ByteArray}{k:Nat}(h:k<s.size):bt s (k:Int)=((s.data.toList[k]'(by rw[B7f];exact h)).toNat:Int):=by
 simp only[bt,zE,h,dite_true];rfl
theorem C6j {s:ByteArray}{k:Nat}{x:UInt8}{t:List UInt8}(h:s.data.toList.drop k=x::t):k<s.size∧bt s (k:Int)=(x.toNat:Int):=by
 obtain⟨h1,h2,_⟩:=B34 h x
 have h3:k<s.size:=by rw[←B7f];exact h1
 refine⟨h3,?_⟩
 rw[C7k h3]
 rw[getD_at h1]at h2;rw[h2]
theorem C61 {S T:Type}(s:ByteArray)(L:Nat→Nat→S→T)(G:List UInt8→S→T)(hnil:∀j st,L (j+1) s.size st=G [] st)
  (hcons:∀j k x t st,s.data.toList.drop k=x::t→k<s.size→bt s (k:Int)=(x.toNat:Int)→(∀st,L j (k+1) st=G t st)→L (j+1) k st=G (x::t) st) {j:Nat} (hj:s.size<j) (st:S):L j 0 st=G s.data.toList st:=by
 refine C75 s.data.toList L G (by rw[B7f];exact hj) st (fun j st=>by rw[B7f];exact hnil j st) fun j k x t st hd hk ih=>?_
 obtain⟨h1,h2⟩:=C6j hd
 exact hcons j k x t st hd h1 h2 ih
theorem C4k {α:Type} [DecidableEq α](x y:α)(R:Option Bool):(bif !decide (x=y)then some false else R)=if x=y then R else some false:=by
 by_cases h:x=y<;>simp[h]
theorem C1s {α:Type} [DecidableEq α](l m:List α)(hlm:l.length=m.length)(L:Nat→Nat→Option Bool)(hexit:∀j,L (j+1) l.length=some true)
  (hstep:∀j k (h:k<l.length) (h':k<m.length),L (j+1) k=if l[k]=m[k]then L j (k+1)else some false):
  ∀(t:List α) (j k:Nat),l.drop k=t→k≤l.length→t.length<j→L j k=some (decide (t=m.drop k))
 |[],j+1,k,hd,hk,_=>by
  have:k=l.length:=by
   rcases zE1 k l.length with h'|h'
   ·rw[zC1 h']at hd;cases hd
   ·omega
  subst this
  rw[hexit,List.drop_eq_nil_of_le (by omega)];simp
 |x::t,j+1,k,hd,hk,hj=>by
  obtain⟨h2,h3,h4⟩:=B34 hd x
  have hx:l[k]=x:=by simpa[List.getD,h2]using h3
  rw[hstep j k h2 (by omega),hx,zC1 (show k<m.length by omega)]
  split
  ·rename_i e
   rw[C1s l m hlm L hexit hstep t j (k+1) h4 (by omega) (by simp at hj;omega)]
   congr 1;exact decide_eq_decide.mpr ⟨fun h=>by rw[e,h],fun h=>(List.cons.inj h).2⟩
  ·rename_i e
   congr 1;exact(zK fun h=>e (List.cons.inj h).1).symm
def idxFrom {α:Type}(p:α→Bool):List α→Nat→Int
 |[],_=> -1
 |x::t,k=>if p x=true then(k:Int)else idxFrom p t (k+1)
def idx {α:Type}(p:α→Bool)(l:List α):Int:=idxFrom p l 0
theorem B7g {α:Type}(p:α→Bool)(l:List α)(L:Nat→Nat→Option Int)(hexit:∀j,L (j+1) l.length=some (-1))
  (hstep:∀j k (h:k<l.length),L (j+1) k=if p l[k]=true then some (k:Int)else L j (k+1)):
  ∀(t:List α) (j k:Nat),l.drop k=t→k≤l.length→t.length<j→L j k=some (idxFrom p t k)
 |[],j+1,k,hd,hk,_=>by
  have:k=l.length:=by
   rcases zE1 k l.length with h'|h'
   ·rw[zC1 h']at hd;cases hd
   ·omega
  subst this;rw[hexit];rfl
 |x::t,j+1,k,hd,hk,hj=>by
  obtain⟨h2,h3,h4⟩:=B34 hd x
  have hx:l[k]=x:=by simpa[List.getD,h2]using h3
  rw[hstep j k h2,hx,B7g p l L hexit hstep t j (k+1) h4 (by omega) (by simp at hj;omega)]
  simp only[idxFrom];split<;>rfl
theorem B7d {b:Bool}{α:Type}(x y:α):(bif !b then y else x)=if b=true then x else y:=by cases b<;>rfl
theorem B7e {b:Bool}{α:Type}(x y:α):(bif b then x else y)=if b=true then x else y:=by cases b<;>rfl
theorem C1a {α:Type}(p:α→Bool):∀(l:List α) (k:Nat),idxFrom p l k= -1∨((k:Int)≤idxFrom p l k∧idxFrom p l k<(k+l.length:Nat))
 |[],k=> .inl rfl
 |x::t,k=>by
  simp only[idxFrom]
  split
  ·right;simp only[zW];omega
  ·rcases C1a p t (k+1)with h|h
   ·exact .inl h
   ·right;simp only[zW];omega
theorem B8h {α:Type}(p:α→Bool)(l:List α): -1≤idx p l∧idx p l<(l.length:Int):=by
 rcases C1a p l 0 with h|h
 ·unfold idx;rw[h];omega
 ·unfold idx;omega
def B2s {α:Type}(p:α→Nat→Bool):List α→Nat→Bool
 |[],_=>true
 |x::t,k=>p x k&&B2s p t (k+1)
theorem B53 {α:Type}(p:α→Nat→Bool)(l:List α)(L:Nat→Nat→Option Bool)(r:Option Bool)(hexit:∀j,L (j+1) l.length=r)
  (hstep:∀j k (h:k<l.length),L (j+1) k=if p l[k] k=true then L j (k+1)else some false):
  ∀(t:List α) (j k:Nat),l.drop k=t→k≤l.length→t.length<j→L j k=if B2s p t k=true then r else some false
 |[],j+1,k,hd,hk,_=>by
  have:k=l.length:=by
   rcases zE1 k l.length with h'|h'
   ·rw[zC1 h']at hd;cases hd
   ·omega
  subst this;rw[hexit];rfl
 |x::t,j+1,k,hd,hk,hj=>by
  obtain⟨h2,h3,h4⟩:=B34 hd x
  have hx:l[k]=x:=by simpa[List.getD,h2]using h3
  rw[hstep j k h2,hx,B53 p l L r hexit hstep t j (k+1) h4 (by omega) (by simp at hj;omega)]
  by_cases hp:p x k=true<;>simp[hp,B2s]
def runs {α S:Type}(f:α→S→Option S):List α→S→Option S
 |[],s=>some s
 |x::t,s=>(f x s).bind (runs f t)
def after {S T:Type}(o:Option S)(X:T)(R:S→T):T:=match o with
 |some s=>R s
 |none=>X
theorem C2h {α S T:Type}(l:List α)(f:α→S→Option S)(L:Nat→Nat→S→T)(R:S→T)(X:T)(Inv:S→Prop)(hinv:∀x∈l,∀s s',Inv s→f x s=some s'→Inv s')
  (hexit:∀j s,Inv s→L (j+1) l.length s=R s) (hstep:∀j k s (h:k<l.length),Inv s→L (j+1) k s=after (f l[k] s) X fun s'=>L j (k+1) s'):
  ∀(t:List α) (j k:Nat) (s:S),l.drop k=t→k≤l.length→t.length<j→Inv s→L j k s=after (runs f t s) X R
 |[],j+1,k,s,hd,hk,_,hs=>by
  have:k=l.length:=by
   rcases zE1 k l.length with h'|h'
   ·rw[zC1 h']at hd;cases hd
   ·omega
  subst this;rw[hexit _ _ hs];rfl
 |x::t,j+1,k,s,hd,hk,hj,hs=>by
  obtain⟨h2,h3,h4⟩:=B34 hd x
  have hx:l[k]=x:=by simpa[List.getD,h2]using h3
  rw[hstep j k s h2 hs,hx]
  simp only[runs]
  cases hf:f x s with
  |none=>rfl
  |some s'=>exact C2h l f L R X Inv hinv hexit hstep t j (k+1) s' h4 (by omega) (by simp at hj;omega) (hinv x (by rw[←hx];exact zL h2) s s' hs hf)
theorem B76 {α:Type}(p:α→Nat→Bool)(Q:Nat→Prop)(l:List α)(L:Nat→Nat→Option Bool)(r:Option Bool)(hexit:∀j,L (j+1) l.length=r)
  (hQ:∀k (h:k<l.length),Q k→p l[k] k=true→Q (k+1)) (hstep:∀j k (h:k<l.length),Q k→L (j+1) k=if p l[k] k=true then L j (k+1)else some false):
  ∀(t:List α) (j k:Nat),l.drop k=t→k≤l.length→t.length<j→Q k→L j k=if B2s p t k=true then r else some false
 |[],j+1,k,hd,hk,_,_=>by
  have:k=l.length:=by
   rcases zE1 k l.length with h'|h'
   ·rw[zC1 h']at hd;cases hd
   ·omega
  subst this;rw[hexit];rfl
 |x::t,j+1,k,hd,hk,hj,hq=>by
  obtain⟨h2,h3,h4⟩:=B34 hd x
  have hx:l[k]=x:=by simpa[List.getD,h2]using h3
  rw[hstep j k h2 hq,hx]
  by_cases hp:p x k=true
  ·rw[B76 p Q l L r hexit hQ hstep t j (k+1) h4 (by omega) (by simp at hj;omega) (hQ k h2 hq (by rw[hx];exact hp))]
   simp[hp,B2s]
  ·simp[hp,B2s]
theorem B31 {α:Type}(p:α→Nat→Bool):∀(l:List α) (k:Nat),B2s p l k=true↔∀i (h:i<l.length),p l[i] (k+i)=true
 |[],k=>by simp[B2s]
 |x::t,k=>by
  simp only[B2s,zJ,B31 p t (k+1)]
  constructor
  ·rintro⟨h1,h2⟩ i hi
   cases i with
   |zero=>exact h1
   |succ i=>have:=h2 i (by simp at hi;omega);rwa[show k+1+i=k+(i+1)by omega]at this
  ·intro h
   refine⟨h 0 (by simp),fun i hi=>?_⟩
   have:=h (i+1) (by simp;omega)
   rwa[show k+(i+1)=k+1+i by omega]at this
theorem C0h {α β:Type}(l:List α)(g:α→β)(L:Nat→Nat→List β→Option (List β))(hexit:∀j s,L (j+1) l.length s=some s)
  (hstep:∀j k s (h:k<l.length),s.length=k→L (j+1) k s=L j (k+1) (s++[g l[k]])):∀(t:List α) (j k:Nat) (s:List β),l.drop k=t→k≤l.length→t.length<j→s.length=k→L j k s=some (s++t.map g)
 |[],j+1,k,s,hd,hk,_,hs=>by
  have:k=l.length:=by
   rcases zE1 k l.length with h'|h'
   ·rw[zC1 h']at hd;cases hd
   ·omega
  subst this;rw[hexit];simp
 |x::t,j+1,k,s,hd,hk,hj,hs=>by
  obtain⟨h2,h3,h4⟩:=B34 hd x
  have hx:l[k]=x:=by simpa[List.getD,h2]using h3
  rw[hstep j k s h2 hs,hx,C0h l g L hexit hstep t j (k+1) _ h4 (by omega) (by simp at hj;omega) (by simp[hs])]
  simp
abbrev B41:=Int×(Int×(ByteArray))
instance i_Val:DecidableEq B41:=@instDecidableEqProd _ _ inferInstance (@instDecidableEqProd _ _ inferInstance (inferInstance))
def B62 (k:Nat)(x:B41):Prop:=x.2.2.size≤k
abbrev B26:=List B41
def C5r (k:Nat)(l:B26):Prop:=l.length≤k∧∀x∈l,B62 k x
abbrev B67:=ByteArray×(Int×(Bool×(Bool×(B41))))
instance i_Col:DecidableEq B67:=@instDecidableEqProd _ _ inferInstance (@instDecidableEqProd _ _ inferInstance (@instDecidableEqProd _ _ inferInstance (@instDecidableEqProd _ _ inferInstance (inferInstance))))
def B61 (k:Nat)(x:B67):Prop:=x.1.size≤k∧B62 k x.2.2.2.2
abbrev B2f:=List B67
def C5q (k:Nat)(l:B2f):Prop:=l.length≤k∧∀x∈l,B61 k x
abbrev B2a:=List ByteArray
def B9n (k:Nat)(l:B2a):Prop:=l.length≤k∧∀x∈l,x.size≤k
abbrev D3:=ByteArray×(B2f×(B2a))
instance i_Table:DecidableEq D3:=@instDecidableEqProd _ _ inferInstance (@instDecidableEqProd _ _ inferInstance (inferInstance))
def B2h (k:Nat)(x:D3):Prop:=x.1.size≤k∧C5q k x.2.1∧B9n k x.2.2
abbrev C1v:=List D3
def C5y (k:Nat)(l:C1v):Prop:=l.length≤k∧∀x∈l,B2h k x
abbrev C6z:=C1v
def C7f (k:Nat)(x:C6z):Prop:=C5y k x
abbrev B3h:=B26
def B5i (k:Nat)(x:B3h):Prop:=C5r k x
abbrev R2:=List B3h
def B3w (k:Nat)(l:R2):Prop:=l.length≤k∧∀x∈l,B5i k x
abbrev C5z:=R2
def C6v (k:Nat)(x:C5z):Prop:=B3w k x
abbrev C5k:=List C5z
def C6d (k:Nat)(l:C5k):Prop:=l.length≤k∧∀x∈l,C6v k x
abbrev C6i:=C6z×(C5k)
instance i_Db:DecidableEq C6i:=@instDecidableEqProd _ _ inferInstance (inferInstance)
def C7s (k:Nat)(x:C6i):Prop:=C7f k x.1∧C6d k x.2
abbrev B8f:=Int×(ByteArray×(B2f×(B2a×(ByteArray×(ByteArray)))))
instance i_Ddl:DecidableEq B8f:=@instDecidableEqProd _ _ inferInstance (@instDecidableEqProd _ _ inferInstance (@instDecidableEqProd _ _ inferInstance (@instDecidableEqProd _ _ inferInstance (@instDecidableEqProd _ _ inferInstance (inferInstance)))))
def C6c (k:Nat)(x:B8f):Prop:=x.2.1.size≤k∧C5q k x.2.2.1∧B9n k x.2.2.2.1∧x.2.2.2.2.1.size≤k∧x.2.2.2.2.2.size≤k
abbrev C1u:=Int×(ByteArray×(B26×(B3h×(B8f))))
instance i_Stmt:DecidableEq C1u:=@instDecidableEqProd _ _ inferInstance (@instDecidableEqProd _ _ inferInstance (@instDecidableEqProd _ _ inferInstance (@instDecidableEqProd _ _ inferInstance (inferInstance))))
def C6w (k:Nat)(x:C1u):Prop:=x.2.1.size≤k∧C5r k x.2.2.1∧B5i k x.2.2.2.1∧C6c k x.2.2.2.2
abbrev C7j:=Int×(Int×(C1u))
instance i_Rec:DecidableEq C7j:=@instDecidableEqProd _ _ inferInstance (@instDecidableEqProd _ _ inferInstance (inferInstance))
abbrev C4d:=List Int
def C5b (k:Nat)(l:C4d):Prop:=l.length≤k∧∀x∈l,0≤x∧x≤255
theorem C7g {n b:Nat}(hb:1≤b)(h:n*b≤reachBytes):n≤140737488355328:=Nat.le_trans (Nat.le_trans (Nat.le_mul_of_pos_right n hb) h) (by decide)
abbrev C6h:Kd:= .sl (.int .u8)
theorem C7w {B:Kd→Nat}(hB:∀g,1≤B g)(x:C4d)(h:Wf B C6h x):C5b 140737488355328 x:=⟨C7g (hB _) h.1,fun y hy=>h.2 y hy⟩
abbrev E0:ByteArray:=⟨#[]⟩
theorem B8q:EV fun n=>∀a b c,B4d n a b c=some (decide (b≤a∧a≤c)):=EV.true.up fun n _ a b c=>by
 simp only[B4d]
 by_cases h:b≤a<;>simp[h]
theorem C5u:EV fun n=>∀a,B6y n a=some (decide (-1099511627775≤a∧a≤1099511627775)):=EV.true.up fun n _ a=>by
 simp only[B6y]
 by_cases h: -1099511627775≤a<;>simp[h]
def lower (b:UInt8):Bool:=decide (97≤b.toNat∧b.toNat≤122)
def B4p (s:ByteArray):Bool:=s.data.toList.all lower&&decide (1≤s.size∧s.size≤8)
theorem B8n:EV fun n=>∀s:ByteArray,s.size≤1048576→B6d n s=some (B4p s):=(EV.gt 1048576).up fun n h s hs=>by
 rw[B6d]
 refine(C61 s (fun j k (_:Unit)=>B44 n j s (k:Int)) (fun t _=>some (t.all lower&&decide (1≤s.size∧s.size≤8))) (fun j _=>?_) (fun j k x t _ hd hk hb ih=>?_) (by omega) ())
 ·simp only[B44,R1,zP,zH,zA,List.all_nil,zG1]
  by_cases h1:(1:Int)≤(s.size:Int)
  ·simp only[zD h1,zB];congr 1;exact decide_eq_decide.mpr (by omega)
  ·simp only[zK h1,zA];congr 1;exact(zK (by omega)).symm
 ·simp only[B44,R1,zD hk,D5 hk,zB,hb,V1 hk (by omega),List.all_cons]
  have:=ih ()
  rw[this]
  by_cases h1:(x.toNat:Int)<97
  ·have:lower x=false:=zK (by omega)
   simp only[zD h1,zB,this,Bool.false_and]
  ·by_cases h2:(122:Int)<(x.toNat:Int)
   ·have:lower x=false:=zK (by omega)
    simp only[zD h2,zK h1,zB,zA,this,Bool.false_and]
   ·have:lower x=true:=zD (by omega)
    simp only[zK h2,zK h1,zA,this,zG1]
theorem B8i:EV fun n=>∀s:ByteArray,s.size≤1048576→B69 n s=some (B4p s):=(B8q.and (EV.gt 1048576)).up fun n ⟨hw,h⟩ s hs=>by
 rw[B69]
 refine(C61 s (fun j k (_:Unit)=>B42 n j s (k:Int)) (fun t _=>some (t.all lower&&decide (1≤s.size∧s.size≤8))) (fun j _=>?_) (fun j k x t _ hd hk hb ih=>?_) (by omega) ())
 ·simp only[B42,R1,zP,zH,zA,List.all_nil,zG1,hw,zC]
  congr 1;exact decide_eq_decide.mpr (by omega)
 ·simp only[B42,R1,zD hk,D5 hk,zB,hb,V1 hk (by omega),List.all_cons]
  have:=ih ()
  rw[this]
  by_cases h1:(x.toNat:Int)<97
  ·have:lower x=false:=zK (by omega)
   simp only[zD h1,zB,this,Bool.false_and]
  ·by_cases h2:(122:Int)<(x.toNat:Int)
   ·have:lower x=false:=zK (by omega)
    simp only[zD h2,zK h1,zB,zA,this,Bool.false_and]
   ·have:lower x=true:=zD (by omega)
    simp only[zK h2,zK h1,zA,this,zG1]
def B37 (a b:Int)(s:ByteArray):Bool:=
 if a=0 then decide (b=0)&&decide (s=E0)else if a=1 then decide (b=0∨b=1)&&decide (s=E0)else
 if a=2 then decide (-1099511627775≤b∧b≤1099511627775)&&decide (s=E0)else if a=3 then decide (b=0)&&decide (s.size≤30)else false
theorem B7b:EV fun n=>∀a b s,B4u n a b s=some (B37 a b s):=C5u.up fun n h a b s=>by
 have hz:decide ((s.size:Int)≤30)=decide (s.size≤30):=decide_eq_decide.mpr (by omega)
 simp only[B4u,h,B7r,zC,B35,hz]
 generalize he:decide (s=E0)=e
 have he':decide (s=⟨#[]⟩)=e:=he
 simp only[B37,he,he']
 by_cases h0:a=0
 ·subst h0;by_cases hb:b=0<;>simp[hb]
 ·by_cases h1:a=1
  ·subst h1;by_cases hb:b=0
   ·simp[hb]
   ·by_cases hb1:b=1<;>simp[hb,hb1]
  ·by_cases h2:a=2
   ·subst h2;by_cases hb: -1099511627775≤b∧b≤1099511627775<;>simp[hb]
   ·by_cases h3:a=3
    ·subst h3;by_cases hb:b=0<;>simp[hb]
    ·simp[h0,h1,h2,h3]
theorem B64:EV fun n=>∀a b s,B4s n a b s=some (B37 a b s):=B8q.up fun n h a b s=>by
 have hz:decide ((s.size:Int)≤30)=decide (s.size≤30):=decide_eq_decide.mpr (by omega)
 simp only[B4s,h,B7r,zC,B35,hz]
 generalize he:decide (s=E0)=e
 have he':decide (s=⟨#[]⟩)=e:=he
 simp only[B37,he,he']
 by_cases h0:a=0
 ·subst h0;by_cases hb:b=0<;>simp[hb]
 ·by_cases h1:a=1
  ·subst h1;by_cases hb:b=0
   ·simp[hb]
   ·by_cases hb1:b=1
    ·simp[hb,hb1]
    ·have:¬(0≤b∧b≤1):=by omega
     simp[hb,hb1,this]
  ·by_cases h2:a=2
   ·subst h2;by_cases hb: -1099511627775≤b∧b≤1099511627775<;>simp[hb]
   ·by_cases h3:a=3
    ·subst h3;by_cases hb:b=0<;>simp[hb]
    ·simp[h0,h1,h2,h3]
def B3v (x y:B41):Bool:=
 B37 x.1 x.2.1 x.2.2&&B37 y.1 y.2.1 y.2.2&&(if x.1=y.1 then(if x.2.1=y.2.1 then Op.bytesLess x.2.2.toList y.2.2.toList else decide (x.2.1<y.2.1))else decide (x.1<y.1))
theorem B7z:EV fun n=>∀x y:B41,B5t n x.1 x.2.1 x.2.2 y.1 y.2.1 y.2.2=some (B3v x y):=B7b.up fun n h x y=>by
 obtain⟨a,b,s⟩:=x;obtain⟨c,d,t⟩:=y
 simp only[B5t,h,zC,B3v,B35,B6j]
 cases B37 a b s<;>cases B37 c d t<;>simp
 by_cases h1:a=c
 ·by_cases h2:b=d
  ·simp[h1,h2]
  ·by_cases h3:b<d<;>simp[h1,h2,h3]
 ·simp[h1]
theorem C1l:EV fun n=>∀x y:B41,B5r n x.1 x.2.1 x.2.2 y.1 y.2.1 y.2.2=some (B3v x y):=B64.up fun n h x y=>by
 obtain⟨a,b,s⟩:=x;obtain⟨c,d,t⟩:=y
 simp only[B5r,h,zC,B3v,B35,B6j]
 cases B37 a b s<;>cases B37 c d t<;>simp
 by_cases h1:a=c
 ·by_cases h2:b=d
  ·simp[h1,h2]
  ·by_cases h3:b<d<;>simp[h1,h2,h3]
 ·simp[h1]
def B6a:B41:=(0,0,E0)
def B5g (x:B67):Bool:=
 B4p x.1&&decide (1≤x.2.1∧x.2.1≤3)&&(if x.2.2.2.1 then B37 x.2.2.2.2.1 x.2.2.2.2.2.1 x.2.2.2.2.2.2&&(decide (x.2.2.2.2.1=x.2.1)||decide (x.2.2.2.2.1=0)&& !x.2.2.1)else decide (x.2.2.2.2=B6a))
theorem C5o (a b:Int)(s:ByteArray):((a==(0:Int))&&((b==(0:Int))&&(decide (s=E0)&&true)))=decide ((a,b,s)=B6a):=by
 by_cases h1:a=0<;>by_cases h2:b=0<;>by_cases h3:s=E0<;>simp[B6a,h1,h2,h3]
theorem C3j:EV fun n=>∀x:B67,B61 1048576 x→B7p n x.1 x.2.1 x.2.2.1 x.2.2.2.1 x.2.2.2.2.1 x.2.2.2.2.2.1 x.2.2.2.2.2.2=some (B5g x):=(B8n.and B7b).up fun n ⟨h1,h2⟩ x hs=>by
 obtain⟨a,t,nt,hs',v⟩:=x
 obtain⟨b,c,s⟩:=v
 have hw:=h1 a hs.1
 simp only[B7p,hw,h2,zC,B7r,C5o,B5g]
 cases B4p a
 ·simp
 by_cases c1:t<1
 ·simp[c1];omega
 by_cases c2:3<t
 ·simp[c1,c2];omega
 have c3:1≤t∧t≤3:=by omega
 simp only[zT,zA,zK c1,zK c2,zD c3,zG1]
 cases hs'<;>simp
 cases hv:B37 b c s
 ·simp
 by_cases hn:(b,c,s)=B6a
 ·have h0:¬(0:Int)=t:=by omega
  simp only[B6a,zR]at hn;obtain⟨rfl,rfl,rfl⟩:=hn
  cases nt<;>simp[B6a,h0]
 ·by_cases hbt:b=t
  ·subst hbt;cases nt<;>simp[hn,B35]
  ·by_cases hb:b=0
   ·exfalso
    subst hb
    simp[B37]at hv
    exact hn (by simp[B6a,hv])
   ·cases nt<;>simp[hn,hbt,hb,B35]
theorem C3e:EV fun n=>∀x:B67,B61 1048576 x→B7j n x.1 x.2.1 x.2.2.1 x.2.2.2.1 x.2.2.2.2.1 x.2.2.2.2.2.1 x.2.2.2.2.2.2=some (B5g x):=(B8i.and (B64.and B8q)).up fun n ⟨h1,h2,h3⟩ x hs=>by
 obtain⟨a,t,nt,hs',v⟩:=x
 obtain⟨b,c,s⟩:=v
 have hw:=h1 a hs.1
 simp only[B7j,hw,h2,h3,zC,B7r,C5o,B5g]
 cases B4p a
 ·simp
 by_cases c3:1≤t∧t≤3
 ·simp only[zT,zA,zD c3,zG1]
  cases hs'
  ·by_cases hn:(b,c,s)=B6a
   ·have:B37 b c s=true:=by
     simp[B6a]at hn;obtain⟨rfl,rfl,rfl⟩:=hn;rfl
    simp[hn,this]
   ·cases B37 b c s<;>simp[hn]
  ·cases B37 b c s<;>simp
   by_cases hbt:b=t
   ·simp[hbt,B35]
   ·by_cases hb:b=0
    ·subst hb;cases nt<;>simp[hbt,B35]
    ·simp[hbt,hb,B35]
 ·simp[zK c3]
theorem C5j (x y:B41):((x.1==y.1)&&((x.2.1==y.2.1)&&((x.2.2.toList==y.2.2.toList)&&true)))=decide (x=y):=by
 obtain⟨a,b,s⟩:=x;obtain⟨c,d,t⟩:=y
 simp only[B7r,B35]
 by_cases h1:a=c<;>by_cases h2:b=d<;>by_cases h3:s=t<;>simp[h1,h2,h3]
def B2b:List B41→List B41→Bool
 |[],[]=>false
 |[],_::_=>true
 |_::_,[]=>false
 |x::s,y::t=>if x=y then B2b s t else B3v x y
theorem B6f:EV fun n=>∀x y:B26,x.length≤1048576→B55 n x y=some (B2b x y):=(B7z.and (EV.gt 1048576)).up fun n ⟨h,hn⟩ x y hx=>by
 rw[B55]
 have key:∀(s:B26) (j k:Nat),x.drop k=s→k≤x.length→k≤y.length→s.length<j→B2x n j x y (k:Int)=some (B2b s (y.drop k)):=by
  intro s
  induction s with
  |nil=>
   intro j k hd hk hky hj
   obtain⟨j,rfl⟩:∃i,j=i+1:=⟨j - 1,by simp at hj;omega⟩
   have:k=x.length:=by
    rcases zE1 k x.length with h'|h'
    ·rw[zC1 h']at hd;cases hd
    ·omega
   subst this
   simp only[B2x,R1,zP,zH,zA]
   cases hy:y.drop x.length with
   |nil=>
    have:y.length≤x.length:=List.drop_eq_nil_iff.mp hy
    rw[zK (by omega)];rfl
   |cons z t=>
    have:x.length<y.length:=(B34 hy z).1
    rw[zD this];rfl
  |cons a s ih=>
   intro j k hd hk hky hj
   obtain⟨j,rfl⟩:∃i,j=i+1:=⟨j - 1,by simp at hj;omega⟩
   obtain⟨h1,h2,h3⟩:=B34 hd (0,0,E0)
   simp only[B2x,R1,zD h1,zB]
   cases hy:y.drop k with
   |nil=>
    have:y.length≤k:=List.drop_eq_nil_iff.mp hy
    rw[zK (by omega),zA,zK (by omega)];rfl
   |cons b t=>
    obtain⟨g1,g2,g3⟩:=B34 hy (0,0,E0)
    simp only[zD g1,zB,D5 h1,D5 g1,zE,V1 h1 (by omega)]
    rw[show x.getD k (0,0,⟨#[]⟩)=a from h2,show y.getD k (0,0,⟨#[]⟩)=b from g2,C5j,h,ih j (k+1) h3 (by omega) (by omega) (by simp at hj;omega),g3]
    simp only[B2b,B7d,zC]
    by_cases e:a=b<;>simp[e]
 exact key x n 0 rfl (by omega) (by omega) (by omega)
theorem B6o {n:Nat}(h:∀x y:B41,B5r n x.1 x.2.1 x.2.2 y.1 y.2.1 y.2.2=B5t n x.1 x.2.1 x.2.2 y.1 y.2.1 y.2.2):∀(j:Nat) (x y:B26) (i:Int),B4g n j x y i=B2x n j x y i
 |0,_,_,_=>rfl
 |j+1,x,y,i=>by simp only[B4g,B2x,h,B6o h j]
theorem B7x:EV fun n=>∀x y:B26,x.length≤1048576→B5p n x y=some (B2b x y):=by
 obtain⟨N,h⟩:=B6f.and (B7z.and C1l)
 refine⟨N+1,fun n hn x y hx=>?_⟩
 obtain⟨m,rfl⟩:∃m,n=m+1:=⟨n - 1,by omega⟩
 have h1:=(h (m+1) (by omega)).1 x y hx
 have h2:=(h m (by omega)).2
 rw[B55]at h1
 rw[B5p,B6o (fun x y=>by rw[h2.1,h2.2])]
 exact h1
theorem B8t:EV fun n=>∀x y:B26,x.length≤1048576→B56 n x y=some (decide (x=y)):=(EV.gt 1048576).up fun n hn x y hx=>by
 rw[B56]
 by_cases hl:x.length=y.length
 ·have:((x.length:Int) !=(y.length:Int))=false:=by simp[hl]
  simp only[this,zA]
  refine(C1s x y hl (fun j k=>B2w n j x y (x.length:Int) (k:Int)) (fun j=>by simp only[B2w,R1,zP,zH,zA]) (fun j k hk hk2=>?_) x n 0 rfl (by omega) (by omega)).trans (by simp)
  simp only[B2w,R1,zD hk,D5 hk,D5 hk2,zE,getD_at hk,getD_at hk2,zB,V1 hk (by omega),C5j]
  exact C4k _ _ _
 ·have:((x.length:Int) !=(y.length:Int))=true:=by simp;omega
  simp only[this,zB]
  congr 1;exact(zK fun h=>hl (by rw[h])).symm
theorem B6p:EV fun n=>∀x y:B26,x.length≤1048576→B2g n x y=some (decide (x=y)):=(EV.gt 1048576).up fun n hn x y hx=>by
 rw[B2g]
 by_cases hl:x.length=y.length
 ·have:((x.length:Int) !=(y.length:Int))=false:=by simp[hl]
  simp only[this,zA]
  refine(C1s x y hl (fun j k=>B28 n j x y (x.length:Int) (k:Int)) (fun j=>by simp only[B28,R1,zP,zH,zA]) (fun j k hk hk2=>?_) x n 0 rfl (by omega) (by omega)).trans (by simp)
  simp only[B28,R1,zD hk,D5 hk,D5 hk2,zE,getD_at hk,getD_at hk2,zB,V1 hk (by omega),C5j]
  exact C4k _ _ _
 ·have:((x.length:Int) !=(y.length:Int))=true:=by simp;omega
  simp only[this,zB]
  congr 1;exact(zK fun h=>hl (by rw[h])).symm
theorem C1b:EV fun n=>∀x y:R2,B3w 1048576 x→B63 n x y=some (decide (x=y)):=
 ((B6p.up (q:=fun n=>∀x y:B26,x.length≤1048576→B5d n x y=some (decide (x=y))) fun n h x y hx=>by simp only[B5d,h x y hx,zC]).and (EV.gt 1048576)).up
  (q:=fun n=>∀x y:R2,B3w 1048576 x→D4 n x y=some (decide (x=y))) (fun n ⟨h,hn⟩ x y hx=>by
 have hlen:=hx.1
 rw[D4]
 by_cases hl:x.length=y.length
 ·have:((x.length:Int) !=(y.length:Int))=false:=by simp[hl]
  simp only[this,zA]
  refine(C1s x y hl (fun j k=>C1 n j y x (x.length:Int) (k:Int)) (fun j=>by simp only[C1,R1,zP,zH,zA]) (fun j k hk hk2=>?_) x n 0 rfl (by omega) (by omega)).trans (by simp)
  simp only[C1,R1,zD hk,D5 hk,D5 hk2,zE,getD_at hk,getD_at hk2,zB,V1 hk (by omega),h x[k] y[k] (hx.2 _ (zL hk)).1,zC]
  exact C4k _ _ _
 ·have:((x.length:Int) !=(y.length:Int))=true:=by simp;omega
  simp only[this,zB]
  congr 1;exact(zK fun h=>hl (by rw[h])).symm)|>.up fun n h x y hx=>by simp only[B63,h x y hx,zC]
def B29 (cs:B2f)(name:ByteArray):Int:=idx (fun c=>decide (c.1=name)) cs
theorem B7a:EV fun n=>∀(a:ByteArray) (cs:B2f) (ks:B2a) (s:ByteArray),cs.length≤1048576→B5j n a cs ks s=some (B29 cs s):=(EV.gt 1048576).up fun n hn a cs ks s hl=>by
 rw[B5j]
 refine B7g (fun c=>decide (c.1=s)) cs (fun j k=>B4m n j s cs (cs.length:Int) (k:Int)) (fun j=>by simp only[B4m,R1,zP,zH,zA]) (fun j k hk=>?_) cs n 0 rfl (by omega) (by omega)
 simp only[B4m,R1,zD hk,D5 hk,zE,getD_at hk,zB,V1 hk (by omega),B7r]
 exact B7e _ _
theorem B77:EV fun n=>∀(a:ByteArray) (cs:B2f) (ks:B2a) (s:ByteArray),cs.length≤1048576→B3z n a cs ks s=some (idx (fun c=>decide (c.1=s)) cs):=
 ((EV.true.up (q:=fun n=>∀(x:B67) (s:ByteArray),B6h n x.1 x.2.1 x.2.2.1 x.2.2.2.1 x.2.2.2.2.1 x.2.2.2.2.2.1 x.2.2.2.2.2.2 s=some (decide (x.1=s))) fun n h x s=>by simp only[B6h,B7r]).and (EV.gt 1048576)).up
  (q:=fun n=>∀(cs:B2f) (s:ByteArray),cs.length≤1048576→A7d n cs s=some (idx (fun c=>decide (c.1=s)) cs)) (fun n ⟨h,hn⟩ cs s hl=>by
  rw[A7d]
  refine B7g (fun c=>decide (c.1=s)) cs (fun j k=>D1 n j cs s (cs.length:Int) (k:Int)) (fun j=>by simp only[D1,R1,zP,zH,zA]) (fun j k hk=>?_) cs n 0 rfl (by omega) (by omega)
  simp only[D1,R1,zD hk,D5 hk,zE,getD_at hk,zB,V1 hk (by omega),h,zC]
  exact B7e _ _)|>.up fun n h a cs ks s hl=>by simp only[B3z,h cs s hl,zC]
def B4q (cs:B2f)(key:ByteArray)(last:Int):Option Int:=if last<B29 cs key∧(cs.getD (B29 cs key).toNat (E0,(0,(false,(false,B6a))))).2.2.1=true then some (B29 cs key)else none
def B2d (x:D3):Bool:=
 B4p x.1&&decide (1≤x.2.1.length∧x.2.1.length≤8)&&decide (1≤x.2.2.length)&&B2s (fun c k=>B5g c&&decide (B29 x.2.1 c.1=(k:Int))) x.2.1 0&&(runs (B4q x.2.1) x.2.2 (-1)).isSome
theorem B7y:EV fun n=>∀x:D3,B2h 1048576 x→B5s n x.1 x.2.1 x.2.2=some (B2d x):=(B8n.and (C3j.and (B7a.and (EV.gt 1048576)))).up fun n ⟨h1,h2,h3,hn⟩ x hs=>by
 obtain⟨a,cs,ks⟩:=x
 obtain⟨s1,s2,s3⟩:=hs
 have s1:a.size≤1048576:=s1
 have s2l:cs.length≤1048576:=s2.1
 have s3l:ks.length≤1048576:=s3.1
 have hL2:B3a n n (-1) ks (ks.length:Int) 0 a cs ks=after (runs (B4q cs) ks (-1)) (some false) fun _=>some true:=by
  refine C2h ks (B4q cs) (fun j k s=>B3a n j s ks (ks.length:Int) (k:Int) a cs ks) (fun _=>some true) (some false) (fun s=> -1≤s) (fun x hx s s' h h'=>?_) (fun j s _=>by simp only[B3a,R1,zP,zH,zA]) (fun j k s hk hs=>?_) ks n 0 (-1) rfl (by omega) (by omega) (by decide)
  ·simp only[B4q]at h';split at h'
   ·obtain rfl:=oI h';exact(B8h _ _).1
   ·cases h'
  ·simp only[B3a,R1,zD hk,D5 hk,zE,getD_at hk,zB,V1 hk (by omega),h3 _ _ _ _ s2l,zC,B4q]
   obtain⟨i1,i2⟩: -1≤B29 cs ks[k]∧B29 cs ks[k]<(cs.length:Int):=B8h _ _
   by_cases hc:B29 cs ks[k]≤s
   ·rw[zD hc,if_neg (by omega)];rfl
   ·have:inR (B29 cs ks[k]) cs.length=true:=by simp only[inR];exact zD (by omega)
    rw[zK hc,this]
    simp only[zA,zB]
    cases hb:(cs.getD (B29 cs ks[k]).toNat (E0,(0,(false,(false,B6a))))).2.2.1
    ·rw[show(cs.getD (B29 cs ks[k]).toNat (⟨#[]⟩,(0,(false,(false,(0,(0,⟨#[]⟩))))))).2.2.1=false from hb];simp[after]
    ·rw[show(cs.getD (B29 cs ks[k]).toNat (⟨#[]⟩,(0,(false,(false,(0,(0,⟨#[]⟩))))))).2.2.1=true from hb,if_pos ⟨by omega,rfl⟩];rfl
 have hL1:B39 n n cs (cs.length:Int) 0 a cs ks=if B2s (fun c k=>B5g c&&decide (B29 cs c.1=(k:Int))) cs 0=true then(after (runs (B4q cs) ks (-1)) (some false) fun _=>some true)else some false:=by
  refine B53 _ cs (fun j k=>B39 n j cs (cs.length:Int) (k:Int) a cs ks) _ (fun j=>by simp only[B39,R1,zP,zH,zA,hL2]) (fun j k hk=>?_) cs n 0 rfl (by omega) (by omega)
  simp only[B39,R1,zD hk,D5 hk,zE,getD_at hk,zB,V1 hk (by omega),h3 _ _ _ _ s2l,zC,h2 cs[k] (s2.2 _ (zL hk)),B6j]
  by_cases e:B29 cs cs[k].1=(k:Int)<;>cases B5g cs[k]<;>simp[e]
 simp only[B5s,h1 a s1,zC,hL1,B2d]
 cases B4p a
 ·simp
 by_cases c1:(cs.length:Int)<1
 ·rw[zD c1,zK (show¬(1≤cs.length∧cs.length≤8)by omega)];simp
 by_cases c2:(8:Int)<(cs.length:Int)
 ·rw[zK c1,zD c2,zK (show¬(1≤cs.length∧cs.length≤8)by omega)];simp
 rw[zK c1,zK c2,zD (show(1≤cs.length∧cs.length≤8)by omega)]
 by_cases c3:(ks.length:Int)<1
 ·rw[zD c3,zK (show¬1≤ks.length by omega)];simp
 rw[zK c3,zD (show 1≤ks.length by omega)]
 simp only[zT,zA,zG1]
 cases B2s (fun c k=>B5g c&&decide (B29 cs c.1=(k:Int))) cs 0
 ·simp
 ·cases runs (B4q cs) ks (-1)<;>simp[after]
theorem B6e:EV fun n=>∀x:D3,B2h 1048576 x→B54 n x.1 x.2.1 x.2.2=some (B2d x):=(B8i.and (C3e.and (B77.and (B8q.and (EV.gt 1048576))))).up fun n ⟨h1,h2,h3,h4,hn⟩ x hs=>by
 obtain⟨a,cs,ks⟩:=x
 obtain⟨s1,s2,s3⟩:=hs
 have s1:a.size≤1048576:=s1
 have s2l:cs.length≤1048576:=s2.1
 have s3l:ks.length≤1048576:=s3.1
 have h3:∀s,B3z n a cs ks s=some (B29 cs s):=fun s=>h3 _ _ _ _ s2l
 have hL2:B38 n n (-1) ks (ks.length:Int) 0 a cs ks=after (runs (B4q cs) ks (-1)) (some false) fun _=>some (B4p a&&decide (1≤cs.length∧cs.length≤8)&&decide (1≤ks.length)):=by
  refine C2h ks (B4q cs) (fun j k s=>B38 n j s ks (ks.length:Int) (k:Int) a cs ks) (fun _=>some (B4p a&&decide (1≤cs.length∧cs.length≤8)&&decide (1≤ks.length))) (some false) (fun s=> -1≤s) (fun x hx s s' h h'=>?_) (fun j s _=>?_) (fun j k s hk hs=>?_) ks n 0 (-1) rfl (by omega) (by omega) (by decide)
  ·simp only[B4q]at h';split at h'
   ·obtain rfl:=oI h';exact(B8h _ _).1
   ·cases h'
  ·simp only[B38,R1,zP,zH,zA,h1 a s1,h4,zC]
   rw[show decide ((1:Int)≤(cs.length:Int)∧(cs.length:Int)≤8)=decide (1≤cs.length∧cs.length≤8)from decide_eq_decide.mpr (by omega),show decide ((0:Int)<(ks.length:Int))=decide (1≤ks.length)from decide_eq_decide.mpr (by omega)]
   cases B4p a<;>cases decide (1≤cs.length∧cs.length≤8)<;>simp
  ·simp only[B38,R1,zD hk,D5 hk,zE,getD_at hk,zB,V1 hk (by omega),h3,zC,B4q]
   obtain⟨i1,i2⟩: -1≤B29 cs ks[k]∧B29 cs ks[k]<(cs.length:Int):=B8h _ _
   by_cases hc:B29 cs ks[k]≤s
   ·rw[zD hc,if_neg (by omega)];rfl
   ·have:inR (B29 cs ks[k]) cs.length=true:=by simp only[inR];exact zD (by omega)
    rw[zK hc,this]
    simp only[zA,zB]
    cases hb:(cs.getD (B29 cs ks[k]).toNat (E0,(0,(false,(false,B6a))))).2.2.1
    ·rw[show(cs.getD (B29 cs ks[k]).toNat (⟨#[]⟩,(0,(false,(false,(0,(0,⟨#[]⟩))))))).2.2.1=false from hb];simp[after]
    ·rw[show(cs.getD (B29 cs ks[k]).toNat (⟨#[]⟩,(0,(false,(false,(0,(0,⟨#[]⟩))))))).2.2.1=true from hb,if_pos ⟨by omega,rfl⟩];rfl
 simp only[B54]
 refine(B53 (fun c k=>B5g c&&decide (B29 cs c.1=(k:Int))) cs (fun j k=>B3r n j cs (cs.length:Int) (k:Int) a cs ks) _ (fun j=>by simp only[B3r,R1,zP,zH,zA];exact hL2) (fun j k hk=>?_) cs n 0 rfl (by omega) (by omega)).trans ?_
 ·simp only[B3r,R1,zD hk,D5 hk,zE,getD_at hk,zB,V1 hk (by omega),h3,zC,h2 cs[k] (s2.2 _ (zL hk)),B6j]
  by_cases e:B29 cs cs[k].1=(k:Int)<;>cases B5g cs[k]<;>simp[e]
 ·simp only[B2d]
  cases B2s (fun c k=>B5g c&&decide (B29 cs c.1=(k:Int))) cs 0
  ·simp
  ·cases runs (B4q cs) ks (-1)<;>simp[after]
theorem C4b {k:Nat}(h:0<k)(h2:k≤1048576):IntKind.wrap .i64 ((k:Int) - (1:Int))=((k - 1:Nat):Int):=by rw[wrap64]<;>omega
def B57 (c:B67)(v:B41):Bool:=B37 v.1 v.2.1 v.2.2&&(if v.1=0 then !c.2.2.1 else decide (v.1=c.2.1))
def CZ:B67:=(E0,(0,(false,(false,B6a))))
def B2t (cs:B2f)(r:B26):Bool:=decide (r.length=cs.length)&&B2s (fun c k=>B57 c (r.getD k B6a)) cs 0
def D0 (cs:B2f)(ks:B2a)(r:B26):B26:=ks.map fun key=>r.getD (B29 cs key).toNat B6a
theorem C4c {cs:B2f}:∀{ks:B2a} {last:Int},(runs (B4q cs) ks last).isSome=true→ -1≤last→∀key∈ks,0≤B29 cs key∧(cs.getD (B29 cs key).toNat CZ).2.2.1=true
 |[],_,_,_,key,h=>by simp at h
 |x::t,last,h,hl,key,hk=>by
  simp only[runs,B4q]at h
  split at h
  ·rename_i hc
   rcases List.mem_cons.mp hk with rfl|hk
   ·exact⟨by omega,hc.2⟩
   ·exact C4c h (B8h _ _).1 key hk
  ·simp at h
theorem B5n {x:D3}(h:B2d x=true):(∀key∈x.2.2,0≤B29 x.2.1 key∧B29 x.2.1 key<(x.2.1.length:Int)∧(x.2.1.getD (B29 x.2.1 key).toNat CZ).2.2.1=true)∧(∀c∈x.2.1,B5g c=true)∧x.2.1.length≤8∧1≤x.2.1.length:=by
 simp only[B2d,zJ,zG]at h
 obtain⟨⟨⟨⟨h1,h2⟩,h3⟩,h4⟩,h5⟩:=h
 refine⟨fun key hk=>?_,fun c hc=>?_,h2.2,h2.1⟩
 ·obtain⟨k1,k2⟩:=C4c h5 (by omega) key hk
  exact⟨k1,(B8h _ _).2,k2⟩
 ·obtain⟨i,hi,rfl⟩:=List.mem_iff_getElem.mp hc
  have:=(B31 _ _ _).mp h4 i hi
  simp only[zJ]at this
  exact this.1
theorem C66 {c:B67}(h:B5g c=true):1≤c.2.1∧c.2.1≤3:=by
 simp only[B5g,zJ,zG]at h
 exact h.1.2
theorem B2v (cs:B2f)(ks:B2a)(r:B26):(D0 cs ks r).length=ks.length:=by simp[D0]
theorem C6m {cs:B2f}{k:Nat}:cs.getD k (⟨#[]⟩,(0,(false,(false,(0,(0,⟨#[]⟩))))))=cs.getD k CZ:=rfl
theorem C19 {r:B26}{k:Nat}:r.getD k (0,(0,⟨#[]⟩))=r.getD k B6a:=rfl
theorem C4l {i:Int}{n:Nat}(h1:0≤i)(h2:i<(n:Int)):inR i n=true:=by simp only[inR];exact zD ⟨h1,h2⟩
theorem C1m:EV fun n=>∀(c:B67) (v:B41),B6k n c.1 c.2.1 c.2.2.1 c.2.2.2.1 c.2.2.2.2.1 c.2.2.2.2.2.1 c.2.2.2.2.2.2 v.1 v.2.1 v.2.2=some (B57 c v):=B7b.up fun n h c v=>by
 simp only[B6k,h,zC,B57,B35]
 by_cases h0:v.1=0<;>cases B37 v.1 v.2.1 v.2.2<;>simp[h0]
theorem C2c:EV fun n=>∀(c:B67) (v:B41),c.2.1≠0→B6v n c.1 c.2.1 c.2.2.1 c.2.2.2.1 c.2.2.2.2.1 c.2.2.2.2.2.1 c.2.2.2.2.2.2 v.1 v.2.1 v.2.2=some (B57 c v):=B64.up fun n h c v hc=>by
 simp only[B6v,h,zC,B57,B35]
 cases B37 v.1 v.2.1 v.2.2
 ·simp
 ·by_cases h0:v.1=0
  ·have:¬(0:Int)=c.2.1:=fun e=>hc e.symm
   simp[h0,this]
  ·by_cases h1:v.1=c.2.1<;>simp[h0,h1]
   exact .inl hc
theorem B9h:EV fun n=>∀(x:D3) (r:B26),B2h 1048576 x→B6q n x.1 x.2.1 x.2.2 r=some (B2d x&&B2t x.2.1 r):=(B7y.and (C1m.and (EV.gt 1048576))).up fun n ⟨h1,h2,hn⟩ x r hs=>by
 have lc:=hs.2.1.1
 simp only[B6q,h1 x hs,zC,B6j,B2t]
 cases B2d x
 ·simp
 by_cases hl:r.length=x.2.1.length
 ·have hl':((r.length:Int)=(x.2.1.length:Int))=True:=eq_true (by omega)
  simp only[zT,zA,hl',zI,hl,zG1]
  refine(B53 (fun c k=>B57 c (r.getD k B6a)) x.2.1 (fun j k=>B4o n j x.2.1 (x.2.1.length:Int) (k:Int) r) (some true) (fun j=>by simp only[B4o,R1,zP,zH,zA]) (fun j k hk=>?_) x.2.1 n 0 rfl (by omega) (by omega)).trans ?_
  ·have hk2:k<r.length:=by omega
   simp only[B4o,R1,zD hk,D5 hk,D5 hk2,zE,getD_at hk,zB,V1 hk (by omega),h2,zC,C19]
   exact B7d _ _
  ·cases B2s (fun c k=>B57 c (r.getD k B6a)) x.2.1 0<;>rfl
 ·have hl':¬(r.length:Int)=(x.2.1.length:Int):=by omega
  simp[hl,hl']
theorem B79:EV fun n=>∀(x:D3) (r:B26),B2h 1048576 x→B2d x=true→B60 n x.1 x.2.1 x.2.2 r=some (B2t x.2.1 r):=(C2c.and (EV.gt 1048576)).up fun n ⟨h2,hn⟩ x r hs ht=>by
 have lc:=hs.2.1.1
 obtain⟨_,hcol,_⟩:=B5n ht
 simp only[B60,B6j,B2t]
 by_cases hl:r.length=x.2.1.length
 ·have hl':((r.length:Int)=(x.2.1.length:Int))=True:=eq_true (by omega)
  simp only[zT,zA,hl',zI,hl,zG1]
  refine(B53 (fun v k=>B57 (x.2.1.getD k CZ) v) r (fun j k=>B4l n j r (x.2.1.length:Int) (k:Int) x.1 x.2.1 x.2.2) (some true) (fun j=>by rw[hl];simp only[B4l,R1,zP,zH,zA]) (fun j k hk=>?_) r n 0 rfl (by omega) (by omega)).trans ?_
  ·have hk2:k<x.2.1.length:=by omega
   simp only[B4l,R1,zD hk2,D5 hk,D5 hk2,zE,getD_at hk,getD_at hk2,zB,V1 hk (by omega)]
   rw[h2 x.2.1[k] r[k] (by have:=C66 (hcol _ (zL hk2));omega)]
   exact B7d _ _
  ·have:B2s (fun v k=>B57 (x.2.1.getD k CZ) v) r 0=B2s (fun c k=>B57 c (r.getD k B6a)) x.2.1 0:=by
    rw[Bool.eq_iff_iff,B31,B31]
    constructor
    ·intro h i hi
     have:=h i (by omega)
     rw[zS,getD_at hi]at this
     rw[zS,getD_at (show i<r.length by omega)];exact this
    ·intro h i hi
     have:=h i (by omega)
     rw[zS,getD_at hi]at this
     rw[zS,getD_at (show i<x.2.1.length by omega)];exact this
   rw[this]
   cases B2s (fun c k=>B57 c (r.getD k B6a)) x.2.1 0<;>rfl
 ·have hl':¬(r.length:Int)=(x.2.1.length:Int):=by omega
  simp[hl,hl']
theorem C3i:EV fun n=>∀(x:D3) (r:B26),B2h 1048576 x→B7n n x.1 x.2.1 x.2.2 r=some (B2d x&&B2t x.2.1 r):=(B6e.and B79).up fun n ⟨h1,h2⟩ x r hs=>by
 simp only[B7n,h1 x hs,zC]
 cases ht:B2d x
 ·simp
 ·simp[h2 x r hs ht]
theorem B5y:EV fun n=>∀(x:D3) (r:B26),B2h 1048576 x→B2d x=true→r.length=x.2.1.length→B3y n x.1 x.2.1 x.2.2 r=some (D0 x.2.1 x.2.2 r):=(B7a.and (EV.gt 1048576)).up fun n ⟨h1,hn⟩ x r hs ht hr=>by
 have lk:=hs.2.2.1
 obtain⟨hkey,_⟩:=B5n ht
 rw[B3y]
 refine(C0h x.2.2 (fun key=>r.getD (B29 x.2.1 key).toNat B6a) (fun j k s=>B4c n j x.2.2 (x.2.2.length:Int) (k:Int) x.1 x.2.1 x.2.2 r s) (fun j s=>by simp only[B4c,R1,zP,zH,zA]) (fun j k s hk hsl=>?_) x.2.2 n 0 [] rfl (by omega) (by omega) rfl).trans (by simp[D0])
 obtain⟨k1,k2,k3⟩:=hkey _ (zL hk)
 have hroom:room (s.length+1) 32=true:=by simp[room];omega
 simp only[B4c,R1,zD hk,D5 hk,zE,getD_at hk,zB,V1 hk (by omega),h1 _ _ _ _ hs.2.1.1,zC,C19,C4l k1 (show B29 x.2.1 x.2.2[k]<(r.length:Int)by omega),zW,zX,zS,hroom]
theorem B5c:EV fun n=>∀(x:D3) (r:B26),B2h 1048576 x→B2d x=true→r.length=x.2.1.length→B40 n x.1 x.2.1 x.2.2 r=some (D0 x.2.1 x.2.2 r):=(B77.and (EV.gt 1048576)).up fun n ⟨h1,hn⟩ x r hs ht hr=>by
 have lk:=hs.2.2.1
 have h1:∀s,B3z n x.1 x.2.1 x.2.2 s=some (B29 x.2.1 s):=fun s=>h1 _ _ _ _ hs.2.1.1
 obtain⟨hkey,_⟩:=B5n ht
 rw[B40]
 refine(C0h x.2.2 (fun key=>r.getD (B29 x.2.1 key).toNat B6a) (fun j k s=>B4k n j x.2.2 (x.2.2.length:Int) (k:Int) x.1 x.2.1 x.2.2 r s) (fun j s=>by simp only[B4k,R1,zP,zH,zA]) (fun j k s hk hsl=>?_) x.2.2 n 0 [] rfl (by omega) (by omega) rfl).trans (by simp[D0])
 obtain⟨k1,k2,k3⟩:=hkey _ (zL hk)
 have hroom:room (s.length+1) 32=true:=by simp[room];omega
 simp only[B4k,R1,zD hk,D5 hk,zE,getD_at hk,zB,V1 hk (by omega),h1,zC,C19,C4l k1 (show B29 x.2.1 x.2.2[k]<(r.length:Int)by omega),zW,zX,zS,hroom]
def B2i (x:D3)(l:R2)(r:B3h)(k:Nat):Bool:=B2t x.2.1 r&&(decide (k=0)||B2b (D0 x.2.1 x.2.2 (l.getD (k - 1) [])) (D0 x.2.1 x.2.2 r))
def B2p (x:D3)(l:R2):Bool:=B2d x&&decide (l.length≤60)&&B2s (B2i x l) l 0
theorem B3s {cs:B2f}{r:B26}(h:B2t cs r=true):r.length=cs.length:=by
 simp only[B2t,zJ,zG]at h;exact h.1
theorem B5e {x:D3}{l:R2}(h:B2p x l=true):B2d x=true∧l.length≤60∧∀r∈l,B2t x.2.1 r=true:=by
 simp only[B2p,zJ,zG]at h
 refine⟨h.1.1,h.1.2,fun r hr=>?_⟩
 obtain⟨i,hi,rfl⟩:=List.mem_iff_getElem.mp hr
 have:=(B31 _ _ _).mp h.2 i hi
 simp only[B2i,zJ]at this
 exact this.1
theorem B8m:EV fun n=>∀(x:D3) (l:R2),B2h 1048576 x→l.length≤1048576→B6c n x.1 x.2.1 x.2.2 l=some (B2p x l):=(B7y.and (B9h.and (B5y.and (B6f.and (EV.gt 1048576))))).up fun n ⟨h1,h2,h3,h4,hn⟩ x l hs hl=>by
 simp only[B6c,h1 x hs,zC,B2p]
 by_cases ht:B2d x=true
 ·simp only[ht,zT,zA,zG1]
  by_cases c:(60:Int)<(l.length:Int)
  ·rw[zD c,zK (show¬l.length≤60 by omega)];rfl
  ·rw[zK c,zD (show l.length≤60 by omega)]
   simp only[zA,zG1]
   refine(B76 (B2i x l) (fun k=>∀i,i<k→∀h:i<l.length,B2t x.2.1 l[i]=true) l (fun j k=>B3l n j l l (l.length:Int) (k:Int) x.1 x.2.1 x.2.2) (some true) (fun j=>by simp only[B3l,R1,zP,zH,zA]) (fun k hk hq hp i hi h=>?_) (fun j k hk hq=>?_) l n 0 rfl (by omega) (by omega) (fun i hi=>by omega)).trans ?_
   ·by_cases e:i<k
    ·exact hq i e h
    ·obtain rfl:i=k:=by omega
     simp only[B2i,zJ]at hp
     exact hp.1
   ·simp only[B3l,R1,zD hk,D5 hk,zE,getD_at hk,zB,V1 hk (by omega),h2 x l[k] hs,ht,zG1,zC]
    by_cases hr:B2t x.2.1 l[k]=true
    ·by_cases h0:k=0
     ·subst h0
      have:B2i x l l[0] 0=true:=by simp[B2i,hr]
      simp[hr,this]
     ·have hk1:k - 1<l.length:=by omega
      have e:B2i x l l[k] k=B2b (D0 x.2.1 x.2.2 l[k - 1]) (D0 x.2.1 x.2.2 l[k]):=by simp only[B2i,hr,zK h0,zG1,Bool.false_or,getD_at hk1]
      have hprev:=hq (k - 1) (by omega) hk1
      rw[zD (show(0:Int)<(k:Int)by omega),C4b (by omega) (by omega),D5 hk1,zE,hr,e,getD_at hk1,h3 x _ hs ht (B3s hprev),h3 x _ hs ht (B3s hr)]
      simp only[zB,zT,zA,zC]
      rw[h4 _ _ (by rw[B2v];exact hs.2.2.1)]
      exact B7d _ _
    ·have:B2i x l l[k] k=false:=by simp[B2i,hr]
     simp[hr,this]
   ·cases B2s (B2i x l) l 0<;>rfl
 ·simp[ht]
theorem B5q:EV fun n=>∀(x:D3) (l:R2),B2h 1048576 x→l.length≤1048576→B4r n x.1 x.2.1 x.2.2 l=some (B2p x l):=(B6e.and (B79.and (B5c.and (B7x.and (EV.gt 1048576))))).up fun n ⟨h1,h2,h3,h4,hn⟩ x l hs hl=>by
 simp only[B4r,h1 x hs,zC,B2p]
 by_cases ht:B2d x=true
 ·simp only[ht,zT,zA,zG1]
  by_cases c:(60:Int)<(l.length:Int)
  ·rw[zD c,zK (show¬l.length≤60 by omega)];rfl
  ·rw[zK c,zD (show l.length≤60 by omega)]
   simp only[zA,zG1]
   refine(B76 (B2i x l) (fun k=>∀i,i<k→∀h:i<l.length,B2t x.2.1 l[i]=true) l (fun j k=>B3k n j l l (l.length:Int) (k:Int) x.1 x.2.1 x.2.2) (some true) (fun j=>by simp only[B3k,R1,zP,zH,zA]) (fun k hk hq hp i hi h=>?_) (fun j k hk hq=>?_) l n 0 rfl (by omega) (by omega) (fun i hi=>by omega)).trans ?_
   ·by_cases e:i<k
    ·exact hq i e h
    ·obtain rfl:i=k:=by omega
     simp only[B2i,zJ]at hp
     exact hp.1
   ·simp only[B3k,R1,zD hk,D5 hk,zE,getD_at hk,zB,V1 hk (by omega),h2 x l[k] hs ht,zC]
    by_cases hr:B2t x.2.1 l[k]=true
    ·by_cases h0:k=0
     ·subst h0
      have:B2i x l l[0] 0=true:=by simp[B2i,hr]
      simp[hr,this]
     ·have hk1:k - 1<l.length:=by omega
      have e:B2i x l l[k] k=B2b (D0 x.2.1 x.2.2 l[k - 1]) (D0 x.2.1 x.2.2 l[k]):=by simp only[B2i,hr,zK h0,zG1,Bool.false_or,getD_at hk1]
      have hprev:=hq (k - 1) (by omega) hk1
      rw[zD (show(0:Int)<(k:Int)by omega),C4b (by omega) (by omega),D5 hk1,zE,hr,e,getD_at hk1,h3 x _ hs ht (B3s hprev),h3 x _ hs ht (B3s hr)]
      simp only[zB,zT,zA,zC]
      rw[h4 _ _ (by rw[B2v];exact hs.2.2.1)]
      exact B7d _ _
    ·have:B2i x l l[k] k=false:=by simp[B2i,hr]
     simp[hr,this]
   ·cases B2s (B2i x l) l 0<;>rfl
 ·simp[ht]
def C17 (x:D3)(key:B26):Bool:=B2d x&&decide (key.length=x.2.2.length)&&B2s (fun k i=>B57 (x.2.1.getD (B29 x.2.1 k).toNat CZ) (key.getD i B6a)) x.2.2 0
theorem C3g:EV fun n=>∀(x:D3) (key:B26),B2h 1048576 x→B7l n x.1 x.2.1 x.2.2 key=some (C17 x key):=(B6e.and (B64.and (B77.and (EV.gt 1048576)))).up fun n ⟨h1,h2,h3,hn⟩ x key hs=>by
 have lk:=hs.2.2.1
 have h3:∀s,B3z n x.1 x.2.1 x.2.2 s=some (B29 x.2.1 s):=fun s=>h3 _ _ _ _ hs.2.1.1
 simp only[B7l,h1 x hs,zC,B6j,C17]
 by_cases ht:B2d x=true
 ·obtain⟨hkey,hcol,_⟩:=B5n ht
  by_cases hl:key.length=x.2.2.length
  ·have hl':((key.length:Int)=(x.2.2.length:Int))=True:=eq_true (by omega)
   simp only[zT,zA,hl',zI,hl,zG1,ht]
   refine(B53 (fun k i=>B57 (x.2.1.getD (B29 x.2.1 k).toNat CZ) (key.getD i B6a)) x.2.2 (fun j k=>B4h n j key x.2.2 (x.2.2.length:Int) (k:Int) x.1 x.2.1 x.2.2) (some true) (fun j=>by simp only[B4h,R1,zP,zH,zA]) (fun j k hk=>?_) x.2.2 n 0 rfl (by omega) (by omega)).trans ?_
   ·have hk2:k<key.length:=by omega
    obtain⟨k1,k2,k3⟩:=hkey _ (zL hk)
    have hin:(B29 x.2.1 x.2.2[k]).toNat<x.2.1.length:=by omega
    have hty:=C66 (hcol _ (zL hin))
    simp only[B4h,R1,zD hk,D5 hk,D5 hk2,zE,getD_at hk,getD_at hk2,zB,V1 hk (by omega),h2,h3,C4l k1 k2,zC,C6m,B6j]
    rw[getD_at hin]at k3
    rw[getD_at hin]
    by_cases hv:B37 key[k].1 key[k].2.1 key[k].2.2=true
    ·by_cases h0:key[k].1=0
     ·have:¬(0:Int)=(x.2.1[(B29 x.2.1 x.2.2[k]).toNat]).2.1:=by omega
      have hf:B57 (x.2.1[(B29 x.2.1 x.2.2[k]).toNat]) key[k]=false:=by simp[B57,hv,h0,k3]
      rw[hf];simp[hv,h0,this]
     ·have hf:B57 (x.2.1[(B29 x.2.1 x.2.2[k]).toNat]) key[k]=decide (key[k].1=(x.2.1[(B29 x.2.1 x.2.2[k]).toNat]).2.1):=by simp[B57,hv,h0]
      rw[hf,hv];simp only[zT,zA];exact B7d _ _
    ·have hf:B57 (x.2.1[(B29 x.2.1 x.2.2[k]).toNat]) key[k]=false:=by simp[B57,hv]
     rw[hf];simp[hv]
   ·cases B2s (fun k i=>B57 (x.2.1.getD (B29 x.2.1 k).toNat CZ) (key.getD i B6a)) x.2.2 0<;>rfl
  ·have hl':¬(key.length:Int)=(x.2.2.length:Int):=by omega
   simp[hl,hl',ht]
 ·simp[ht]
def C76 (d:B8f):Bool:=B4p d.2.1&&(
 if d.1=1 then decide (d.2.2.2.2.1=E0)&&decide (d.2.2.2.2.2=E0)&&B2d (d.2.1,(d.2.2.1,d.2.2.2.1))else
 if d.1=2 then d.2.2.1.isEmpty&&d.2.2.2.1.isEmpty&&decide (d.2.2.2.2.1=E0)&&decide (d.2.2.2.2.2=E0)else
 if d.1=3 then(match d.2.2.1 with
  |[c]=>B5g c&&(c.2.2.2.1|| !c.2.2.1)&&d.2.2.2.1.isEmpty&&decide (d.2.2.2.2.1=E0)&&decide (d.2.2.2.2.2=E0)
  |_=>false)else
 if d.1=4 then d.2.2.1.isEmpty&&d.2.2.2.1.isEmpty&&B4p d.2.2.2.2.1&&decide (d.2.2.2.2.2=E0)else
 if d.1=5 then d.2.2.1.isEmpty&&d.2.2.2.1.isEmpty&&B4p d.2.2.2.2.1&&B4p d.2.2.2.2.2 else false)
def C7r:B8f:=(0,(E0,([],([],(E0,E0)))))
def B9k (x:D3)(l:R2)(key:B26):Int:=if B2p x l=true then idx (fun r=>decide (D0 x.2.1 x.2.2 r=key)) l else -1
theorem C3k:EV fun n=>∀(x:D3) (l:R2) (key:B26),B2h 1048576 x→l.length≤1048576→B7q n x.1 x.2.1 x.2.2 l key=some (B9k x l key):=(B8m.and (B5y.and (B8t.and (EV.gt 1048576)))).up fun n ⟨h1,h2,h3,hn⟩ x l key hs hl=>by
 simp only[B7q,h1 x l hs hl,zC,B9k]
 by_cases hr:B2p x l=true
 ·obtain⟨ht,_,hin⟩:=B5e hr
  simp only[hr,zT,zA,if_true]
  refine B7g (fun r=>decide (D0 x.2.1 x.2.2 r=key)) l (fun j k=>B4n n j key l (l.length:Int) (k:Int) x.1 x.2.1 x.2.2) (fun j=>by simp only[B4n,R1,zP,zH,zA]) (fun j k hk=>?_) l n 0 rfl (by omega) (by omega)
  have hk2:=B3s (hin _ (zL hk))
  simp only[B4n,R1,zD hk,D5 hk,zE,getD_at hk,zB,V1 hk (by omega),h2 x _ hs ht hk2,zC]
  rw[h3 _ _ (by rw[B2v];exact hs.2.2.1)]
  exact B7e _ _
 ·simp[hr]
theorem B78:EV fun n=>∀(x:D3) (l:R2) (key:B26),B2h 1048576 x→l.length≤1048576→B2d x=true→(∀r∈l,r.length=x.2.1.length)→B5h n x.1 x.2.1 x.2.2 l key=some (idx (fun r=>decide (D0 x.2.1 x.2.2 r=key)) l):=
 (((B5c.and B6p).up (q:=fun n=>∀(x:D3) (r key:B26),B2h 1048576 x→B2d x=true→r.length=x.2.1.length→B6i n r x key=some (decide (D0 x.2.1 x.2.2 r=key))) fun n ⟨h1,h2⟩ x r key hs ht hr=>by
  simp only[B6i,h1 x r hs ht hr,zC]
  rw[h2 _ _ (by rw[B2v];exact hs.2.2.1)];rfl).and (EV.gt 1048576)).up
  (q:=fun n=>∀(x:D3) (l:R2) (key:B26),B2h 1048576 x→l.length≤1048576→B2d x=true→(∀r∈l,r.length=x.2.1.length)→B25 n l x key=some (idx (fun r=>decide (D0 x.2.1 x.2.2 r=key)) l)) (fun n ⟨h,hn⟩ x l key hs hl ht hr=>by
  rw[B25]
  refine B7g (fun r=>decide (D0 x.2.1 x.2.2 r=key)) l (fun j k=>D2 n j l x key (l.length:Int) (k:Int)) (fun j=>by simp only[D2,R1,zP,zH,zA]) (fun j k hk=>?_) l n 0 rfl (by omega) (by omega)
  simp only[D2,R1,zD hk,D5 hk,zE,getD_at hk,zB,V1 hk (by omega),h x _ key hs ht (hr _ (zL hk)),zC]
  exact B7e _ _)|>.up fun n h x l key hs hl ht hr=>by
   have:=h x l key hs hl ht hr
   simp only[B5h]
   rw[show(x.1,(x.2.1,x.2.2))=x from rfl,this];rfl
theorem C3h:EV fun n=>∀(x:D3) (l:R2) (key:B26),B2h 1048576 x→l.length≤1048576→B7m n x.1 x.2.1 x.2.2 l key=some (B9k x l key):=(B5q.and B78).up fun n ⟨h1,h2⟩ x l key hs hl=>by
 simp only[B7m,h1 x l hs hl,zC,B9k]
 by_cases hr:B2p x l=true
 ·obtain⟨ht,_,hin⟩:=B5e hr
  simp only[hr,zT,zA,if_true]
  rw[h2 x l key hs hl ht fun r hr=>B3s (hin r hr)];rfl
 ·simp[hr]
theorem C53 {α:Type}{p:α→Nat→Bool}{l:List α}(h:B2s p l 0=true){i:Nat}(hi:i<l.length):p l[i] i=true:=by
 have:=(B31 p l 0).mp h i hi
 rwa[zS]at this
def dig (d:Int):ByteArray:=strOfNums [48+d]
def C78:Nat→Int→ByteArray
 |0,_=>E0
 |f+1,a=>if a<10 then dig a else C78 f (a / 10)++dig (a % 10)
def C7q:ByteArray:=⟨#[45]⟩
def C64 (a:Int):ByteArray:=if -1099511627775≤a∧a≤1099511627775 then(if a<0 then C7q++C78 14 (-a)else C78 14 a)else E0
def C7y:ByteArray:=⟨#[48,49,50,51,52,53,54,55,56,57,97,98,99,100,101,102]⟩
def C7p (k:Nat):Int:=bt C7y (k:Int)
abbrev C7c (b:UInt8):Prop:=33≤b.toNat∧b.toNat≤126∧b.toNat≠39∧b.toNat≠37
def C7d (b:UInt8):List Int:=if C7c b then [(b.toNat:Int)]else [37,C7p (b.toNat / 16),C7p (b.toNat % 16)]
def C6b:List UInt8→List Int
 |[]=>[]
 |b::t=>C7d b++C6b t
def C77 (s:ByteArray):ByteArray:=strOfNums ([39]++C6b s.data.toList++[39])
def C6y:ByteArray:=⟨#[110,117,108,108]⟩
def C6x (b:Int):ByteArray:=if b=1 then⟨#[116,114,117,101]⟩else⟨#[102,97,108,115,101]⟩
def C65 (x:B41):ByteArray:=if B37 x.1 x.2.1 x.2.2=true then(if x.1=0 then C6y else if x.1=1 then C6x x.2.1 else if x.1=2 then C64 x.2.1 else C77 x.2.2)else E0
def C7t:ByteArray:=⟨#[32]⟩
def C72:Nat→ByteArray→List ByteArray→ByteArray
 |_,acc,[]=>acc
 |k,acc,t::r=>C72 (k+1) (if 0<k then acc++C7t++t else acc++t) r
def C7l (l:List ByteArray):ByteArray:=C72 0 E0 l
theorem C4a (l:List Int):(strOfNums l).size=l.length:=by
 show(strOfNums l).data.size=_
 simp[strOfNums]
def tyL:List ByteArray:=[⟨#[]⟩,⟨#[98,111,111,108]⟩,⟨#[105,110,116]⟩,⟨#[116,101,120,116]⟩]
def tyN (a:Int):ByteArray:=tyL.getD a.toNat E0
def C71 (c:B67):List ByteArray:=[c.1,tyN c.2.1]++(if c.2.2.1=true then [⟨#[110,111,116]⟩]else [])++(if c.2.2.2.1=true then [⟨#[61]⟩++C65 c.2.2.2.2]else [])
def C67:B2f→List ByteArray
 |[]=>[]
 |c::t=>[⟨#[40]⟩]++C71 c++[⟨#[41]⟩]++C67 t
def C7v:List ByteArray:=[⟨#[]⟩,⟨#[99,114,101,97,116,101]⟩,⟨#[100,114,111,112]⟩,⟨#[97,100,100]⟩,⟨#[111,117,116]⟩,⟨#[110,97,109,101]⟩]
def C7m (d:B8f):List ByteArray:=[C7v.getD d.1.toNat E0,d.2.1]++(if d.1=1 then C67 d.2.2.1++[⟨#[107,101,121]⟩]++d.2.2.2.1 else if d.1=3 then(match d.2.2.1 with
 |c::_=>C71 c
 |[]=>[])else if d.1=4 then [d.2.2.2.2.1]else if d.1=5 then [d.2.2.2.2.1,d.2.2.2.2.2]else [])
def C63 (d:B8f):ByteArray:=if C76 d=true then C7l (C7m d)else E0
def C6k (x:D3)(r:B26):B26:=if(B2d x&&B2t x.2.1 r)=true then D0 x.2.1 x.2.2 r else []
theorem C3f:EV fun n=>∀(x:D3) (r:B26),B2h 1048576 x→B7k n x.1 x.2.1 x.2.2 r=some (C6k x r):=(C3i.and B5c).up fun n ⟨h1,h2⟩ x r hs=>by
 simp only[B7k,h1 x r hs,zC,C6k]
 cases h:(B2d x&&B2t x.2.1 r)
 ·rfl
 ·simp only[zJ]at h
  simp[h2 x r hs h.1 (B3s h.2)]
theorem C2j:EV fun n=>∀r:B26,r.length≤1048576→B4e n r=some r:=EV.true.up fun n _ r hr=>by
 have r1:room r.length 32=true:=by simp only[room,zG];omega
 have r2:room (([]:B26).length+r.length) 32=true:=by simp only[room,zG,zX];omega
 simp[B4e,r1]
theorem B7i:EV fun n=>∀r:B26,r.length≤1048576→B4j n r=some r:=EV.true.up fun n _ r hr=>by
 have r1:room r.length 32=true:=by simp only[room,zG];omega
 have r2:room (([]:B26).length+r.length) 32=true:=by simp only[room,zG,zX];omega
 simp[B4j,r1]
theorem B7h:EV fun n=>∀l:R2,B3w 1048576 l→B4i n l=some l:=(B7i.and (EV.gt 1048577)).up fun n ⟨h,hn⟩ l hs=>by
 have hl:=hs.1
 simp only[B4i]
 refine(C0h l id (fun j k acc=>B3g n j l (l.length:Int) (k:Int) acc) (fun j acc=>?_) (fun j k acc hk ha=>?_) l n 0 [] rfl (by omega) (by omega) rfl).trans (by simp)
 ·simp only[B3g,R1,zP,zH,zA]
 ·have e:=h l[k] (hs.2 _ (zL hk)).1
  have r3:∀x:B26,room (acc.length+[x].length) 24=true:=fun x=>by simp only[room,zG,zW,zX];omega
  simp only[B3g,R1,zD hk,D5 hk,zE,getD_at hk,zB,V1 hk (by omega),e,zC,r3,id]
def C5d (ws:List ByteArray):Prop:=ws.length≤1048577∧∀w∈ws,w.size≤1048576
theorem C5d.sm {ws:List ByteArray}(h:C5d ws):B9n 1048577 ws:=⟨h.1,fun w hw=>by have:=h.2 w hw;omega⟩
theorem C5d.drop {ws:List ByteArray}(h:C5d ws)(i:Nat):C5d (ws.drop i):=⟨by have:=h.1;simp;omega,fun w hw=>h.2 w (List.mem_of_mem_drop hw)⟩
theorem C5d.take {ws:List ByteArray}(h:C5d ws)(i:Nat):C5d (ws.take i):=⟨by have:=h.1;simp;omega,fun w hw=>h.2 w (List.mem_of_mem_take hw)⟩
def fin (d:B8f)(s:ByteArray):B8f×(Bool×Unit):=if C63 d=s then(d,(true,()))else(C7r,(false,()))
def B30 {α:Type}(b:List Int)(P:α→Prop)(r:Option (α×(((List Int)×(Int×Int))×Unit))):Prop:=∃x i h,r=some (x,((b,(i,h)),()))∧0≤i∧P x
theorem C62 (a b:Int):0≤IntKind.wrap .i64 ((BitVec.ofInt (IntKind.bits .i64) a&&&BitVec.ofInt (IntKind.bits .i64) (255:Int)).toNat:Int)∧IntKind.wrap .i64 ((BitVec.ofInt (IntKind.bits .i64) a&&&BitVec.ofInt (IntKind.bits .i64) (255:Int)).toNat:Int)≤255:=by
 have h:(BitVec.ofInt (IntKind.bits .i64) a&&&BitVec.ofInt (IntKind.bits .i64) (255:Int)).toNat≤255:=by
  rw[BitVec.toNat_and]
  exact Nat.and_le_right
 rw[wrap64 (by omega) (by omega)]
 omega
theorem C5l:EV fun n=>∀(b:List Int) (i h:Int),b.length≤1048576→0≤i→B30 b (fun x:Int=>0≤x∧x≤255) (B3f n b i h):=EV.true.up fun n _ b i h hb hi=>by
 simp only[B3f,show decide (0≤(33:Int))=true from rfl,show decide (0≤(45:Int))=true from rfl,zB]
 by_cases hl:i<b.length
 ·have e1:decide (i<(b.length:Int))=true:=zD hl
  obtain⟨k,rfl⟩:=Int.eq_ofNat_of_zero_le hi
  have e2:inR (k:Int) b.length=true:=D5 (by omega)
  simp only[e1,e2,zB]
  refine⟨_,_,_,rfl,?_,C62 _ 0⟩
  rw[V1 (n:=b.length) (by omega) (by omega)];omega
 ·have e1:decide (i<(b.length:Int))=false:=zK hl
  simp only[e1,zA]
  exact⟨_,_,_,rfl,hi,C62 _ 0⟩
theorem B4f:EV fun n=>∀(b:List Int) (i h m:Int),b.length≤1048576→0≤i→m≤4294967296→B30 b (fun x:Int=>(0<m→0≤x∧x<m)∧(m≤0→x=0)) (C3 n b i h m):=C5l.up fun n hB b i h m hb hi hm=>by
 rw[C3]
 by_cases h0:m≤0
 ·simp only[zD h0,zB]
  exact⟨_,_,_,rfl,hi,by omega,by omega⟩
 ·simp only[zK h0,zA]
  have hz:(!decide (m=0))=true:=by simp;omega
  by_cases h1:m≤256
  ·obtain⟨x,i1,g1,e1,p1,q1⟩:=hB b i h hb hi
   simp only[zD h1,zB,e1,zC,hz]
   refine⟨_,_,_,rfl,p1,fun _=>?_,by omega⟩
   rw[Int.tmod_eq_emod_of_nonneg q1.1]
   exact⟨Int.emod_nonneg _ (by omega),Int.emod_lt_of_pos _ (by omega)⟩
  ·obtain⟨x,i1,g1,e1,p1,q1⟩:=hB b i h hb hi
   obtain⟨y,i2,g2,e2,p2,q2⟩:=hB b i1 g1 hb p1
   obtain⟨z,i3,g3,e3,p3,q3⟩:=hB b i2 g2 hb p2
   obtain⟨w,i4,g4,e4,p4,q4⟩:=hB b i3 g3 hb p3
   simp only[zK h1,zA,zB,e1,e2,e3,e4,zC,hz]
   refine⟨_,_,_,rfl,p4,fun _=>?_,by omega⟩
   rw[wrap64 (x:=x*16777216) (by omega) (by omega),wrap64 (x:=y*65536) (by omega) (by omega),wrap64 (x:=z*256) (by omega) (by omega),wrap64 (x:=x*16777216+y*65536) (by omega) (by omega),wrap64 (x:=x*16777216+y*65536+z*256) (by omega) (by omega),wrap64 (x:=x*16777216+y*65536+z*256+w) (by omega) (by omega)]
   rw[Int.tmod_eq_emod_of_nonneg (by omega)]
   exact⟨Int.emod_nonneg _ (by omega),Int.emod_lt_of_pos _ (by omega)⟩
def C2d (x:Int):Prop:= -9223372036854775808≤x∧x≤9223372036854775807
theorem C7e:EV fun n=>∀(b:List Int) (i h:Int),b.length≤1048576→0≤i→B30 b C2d (B5m n b i h):=B4f.up fun n hB b i h hb hi=>by
 obtain⟨k,i1,g1,e1,p1,q1,_⟩:=hB b i h 9 hb hi (by omega)
 have q1:=q1 (by omega)
 simp only[B5m,e1,zC,B35]
 have one:∀m:Int,0<m→m≤4294967296→∃x i2 g2,C3 n b i1 g1 m=some (x,((b,(i2,g2)),()))∧0≤i2∧0≤x∧x<m:=fun m h0 h1=>by
  obtain⟨x,i2,g2,e2,p2,q2,_⟩:=hB b i1 g1 m hb p1 h1
  exact⟨x,i2,g2,e2,p2,(q2 h0).1,(q2 h0).2⟩
 by_cases c1:k<4
 ·obtain⟨x,i2,g2,e2,p2,q2,r2⟩:=one 24 (by decide) (by decide)
  simp only[zD c1,zB,e2,zC]
  refine⟨_,_,_,rfl,p2,?_⟩
  rw[wrap64 (by omega) (by omega)];unfold C2d;omega
 ·simp only[zK c1,zA]
  by_cases c2:k=4
  ·obtain⟨x,i2,g2,e2,p2,q2,r2⟩:=one 3 (by decide) (by decide)
   simp only[zD c2,zB,e2,zC]
   refine⟨_,_,_,rfl,p2,?_⟩
   rw[wrap64 (by omega) (by omega)];unfold C2d;omega
  ·simp only[zK c2,zA]
   by_cases c3:k=5
   ·obtain⟨x,i2,g2,e2,p2,q2,r2⟩:=one 3 (by decide) (by decide)
    simp only[zD c3,zB,e2,zC]
    refine⟨_,_,_,rfl,p2,?_⟩
    rw[wrap64 (by omega) (by omega)];unfold C2d;omega
   ·simp only[zK c3,zA]
    by_cases c4:k=6
    ·obtain⟨x,i2,g2,e2,p2,q2,r2⟩:=one 2 (by decide) (by decide)
     simp only[zD c4,zB,e2,zC]
     refine⟨_,_,_,rfl,p2,?_⟩
     rw[wrap64 (by omega) (by omega)];unfold C2d;omega
    ·simp only[zK c4,zA]
     by_cases c5:k=7
     ·obtain⟨x,i2,g2,e2,p2,q2,r2⟩:=one 2 (by decide) (by decide)
      simp only[zD c5,zB,e2,zC]
      refine⟨_,_,_,rfl,p2,?_⟩
      rw[wrap64 (by omega) (by omega)];unfold C2d;omega
     ·obtain⟨x,i2,g2,e2,p2,q2,r2⟩:=one 2000000 (by decide) (by decide)
      simp only[zK c5,zA,e2,zC]
      exact⟨_,_,_,rfl,p2,by unfold C2d;omega⟩
theorem C7b:EV fun n=>∀(b:List Int),b.length≤1048576→∃h,B6x n b=some ((b,(0,h)),()):=(EV.gt 1048578).up fun n hn b hb=>by
 rw[B6x]
 have:∀(t:List Int) (j k:Nat) (h:Int),b.drop k=t→k≤b.length→t.length<j→∃g,B45 n j b h (k:Int)=some ((b,(0,g)),()):=by
  intro t
  induction t with
  |nil=>
   intro j k h hd hk hj
   obtain⟨j,rfl⟩:∃j',j=j'+1:=⟨j - 1,by omega⟩
   have:k=b.length:=by have:=congrArg List.length hd;simp at this;omega
   subst this
   simp only[B45,R1,zP,zH,zA]
   exact⟨_,rfl⟩
  |cons x t ih=>
   intro j k h hd hk hj
   obtain⟨j,rfl⟩:∃j',j=j'+1:=⟨j - 1,by omega⟩
   obtain⟨h2,h3,h4⟩:=B34 hd x
   rw[B45]
   simp only[R1,zD h2,zB]
   by_cases c:(k:Int)<4000
   ·simp only[zD c,D5 h2,zB,V1 h2 (by omega)]
    exact ih j (k+1) _ h4 (by omega) (by simp at hj;omega)
   ·simp only[zK c,zA]
    exact⟨_,rfl⟩
 exact this b n 0 _ rfl (by omega) (by omega)
theorem C5g:EV fun n=>∀(b:List Int) (i h:Int),b.length≤1048576→0≤i→B30 b (fun s:ByteArray=>s.size≤30) (B6z n b i h):=(C5l.and (B4f.and (EV.gt 100))).up fun n ⟨hB,hW,hn⟩ b i h hb hi=>by
 obtain⟨k,i1,g1,e1,p1,q1,_⟩:=hW b i h 10 hb hi (by omega)
 have q1:=q1 (by omega)
 obtain⟨k,rfl⟩:=Int.eq_ofNat_of_zero_le q1.1
 simp only[B6z,e1,zC,B35]
 by_cases c1:(k:Int)<7
 ·have hk:k<7:=by omega
  simp only[zD c1,zB,D5 (k:=k) (n:=[(⟨#[]⟩:ByteArray),(⟨#[97]⟩:ByteArray),(⟨#[98]⟩:ByteArray),(⟨#[97,98]⟩:ByteArray),(⟨#[116,114,117,101]⟩:ByteArray),(⟨#[102,97,108,115,101]⟩:ByteArray),(⟨#[49,50]⟩:ByteArray)].length) hk]
  refine⟨_,_,_,rfl,p1,?_⟩
  rw[zE]
  have:∀k:Fin 7,([(⟨#[]⟩:ByteArray),(⟨#[97]⟩:ByteArray),(⟨#[98]⟩:ByteArray),(⟨#[97,98]⟩:ByteArray),(⟨#[116,114,117,101]⟩:ByteArray),(⟨#[102,97,108,115,101]⟩:ByteArray),(⟨#[49,50]⟩:ByteArray)].getD k.val (⟨#[]⟩:ByteArray)).size≤30:=by decide
  exact this ⟨k,hk⟩
 ·simp only[zK c1,zA]
  by_cases c2:(k:Int)=7
  ·simp only[zD c2,zB]
   exact⟨_,_,_,rfl,p1,by decide⟩
  ·simp only[zK c2,zA]
   obtain⟨m,i2,g2,e2,p2,q2,_⟩:=hW b i1 g1 31 hb p1 (by omega)
   have q2:=q2 (by omega)
   obtain⟨m,rfl⟩:=Int.eq_ofNat_of_zero_le q2.1
   simp only[e2,zC]
   have loop:∀(t j x:Nat) (i g:Int) (acc:List Int),x+t=m→t<j→acc.length=x→0≤i→B30 b (fun s:ByteArray=>s.size≤30) (B46 n j (m:Int) (x:Int) b i g acc):=by
    intro t
    induction t with
    |zero=>
     intro j x i g acc hx hj ha hi
     obtain⟨j,rfl⟩:∃j',j=j'+1:=⟨j - 1,by omega⟩
     have:decide ((x:Int)<(m:Int))=false:=zK (by omega)
     simp only[B46,this,zA]
     exact⟨_,_,_,rfl,hi,show(strOfNums acc).size≤30 by rw[C4a];omega⟩
    |succ t ih=>
     intro j x i g acc hx hj ha hi
     obtain⟨j,rfl⟩:∃j',j=j'+1:=⟨j - 1,by omega⟩
     have e0:decide ((x:Int)<(m:Int))=true:=zD (by omega)
     obtain⟨y,i3,g3,e3,p3,q3⟩:=hB b i g hb hi
     have hr:room (acc.length+[IntKind.wrap .u8 y].length) 1=true:=by simp[room];omega
     simp only[B46,e0,zB,e3,zC,hr,V1 (show x<m by omega) (by omega)]
     exact ih j (x+1) i3 g3 _ (by omega) (by omega) (by simp;omega) p3
   exact loop m n 0 i2 g2 [] (by omega) (by omega) rfl p2
theorem C18:EV fun n=>∀(b:List Int) (i h ty:Int),b.length≤1048576→0≤i→B30 b (fun v:B41=>v.2.2.size≤31) (B5k n b i h ty):=(C5g.and B4f).up fun n ⟨hS,hW⟩ b i h ty hb hi=>by
 obtain⟨k,i1,g1,e1,p1,_⟩:=hW b i h 8 hb hi (by omega)
 simp only[B5k,e1,zC,B35]
 by_cases c0:k=0
 ·simp only[zD c0,zB]
  exact⟨_,_,_,rfl,p1,by decide⟩
 ·simp only[zK c0,zA]
  by_cases c1:ty=1
  ·obtain⟨x,i2,g2,e2,p2,_⟩:=hW b i1 g1 2 hb p1 (by omega)
   simp only[zD c1,zB,e2,zC]
   exact⟨_,_,_,rfl,p2,show E0.size≤31 by decide⟩
  ·simp only[zK c1,zA]
   by_cases c2:ty=2
   ·obtain⟨x,i2,g2,e2,p2,_⟩:=hW b i1 g1 12 hb p1 (by omega)
    simp only[zD c2,zB,e2,zC]
    exact⟨_,_,_,rfl,p2,show E0.size≤31 by decide⟩
   ·simp only[zK c2,zA]
    by_cases c3:ty=3
    ·obtain⟨x,i2,g2,e2,p2,q2⟩:=hS b i1 g1 hb p1
     simp only[zD c3,zB,e2,zC]
     exact⟨_,_,_,rfl,p2,Nat.le_trans q2 (by decide)⟩
    ·simp only[zK c3,zA]
     exact⟨_,_,_,rfl,p1,by decide⟩
theorem C5h:EV fun n=>∀(b:List Int) (i h:Int),b.length≤1048576→0≤i→B30 b (fun v:B41=>v.2.2.size≤31) (B70 n b i h):=(C18.and B4f).up fun n ⟨hS,hW⟩ b i h hb hi=>by
 obtain⟨k,i1,g1,e1,p1,_⟩:=hW b i h 4 hb hi (by omega)
 obtain⟨v,i2,g2,e2,p2,q2⟩:=hS b i1 g1 k hb p1
 simp only[B70,e1,e2,zC]
 exact⟨_,_,_,rfl,p2,q2⟩
theorem B9l:EV fun n=>∀(b:List Int) (i h:Int),b.length≤1048576→0≤i→B30 b (fun v:B41=>v.2.2.size≤31) (B5l n b i h):=(C5h.and (B4f.and C7e)).up fun n ⟨hV,hW,hR⟩ b i h hb hi=>by
 obtain⟨v,i1,g1,e1,p1,q1⟩:=hV b i h hb hi
 obtain⟨k,i2,g2,e2,p2,_⟩:=hW b i1 g1 12 hb p1 (by omega)
 simp only[B5l,e1,e2,zC,B35]
 by_cases c0:k=0
 ·obtain⟨x,i3,g3,e3,p3,_⟩:=hR b i2 g2 hb p2
  subst c0
  simp only[show decide ((0:Int)=0)=true from rfl,show decide ((0:Int)=1)=false from rfl,show decide ((0:Int)=2)=false from rfl,zB,zA,e3,zC]
  exact⟨_,_,_,rfl,p3,q1⟩
 ·simp only[zK c0,zA]
  by_cases c1:k=1
  ·obtain⟨x,i3,g3,e3,p3,_⟩:=hR b i2 g2 hb p2
   subst c1
   simp only[show decide ((1:Int)=1)=true from rfl,show decide ((1:Int)=2)=false from rfl,zB,zA,e3,zC]
   exact⟨_,_,_,rfl,p3,q1⟩
  ·simp only[zK c1,zA]
   by_cases c2:k=2
   ·obtain⟨x,i3,g3,e3,p3,q3,_⟩:=hW b i2 g2 2 hb p2 (by omega)
    have q3:=q3 (by omega)
    have w:IntKind.wrap .i64 ((30:Int)+x)=30+x:=wrap64 (by omega) (by omega)
    have hr:(decide (True∧0≤30+x)&&room (30+x).toNat 1)=true:=by simp[room];omega
    simp only[zD c2,zB,e3,zC,w,hr]
    refine⟨_,_,_,rfl,p3,?_⟩
    show(strOfNums _).size≤31
    rw[C4a,List.length_replicate];omega
   ·simp only[zK c2,zA]
    exact⟨_,_,_,rfl,p2,q1⟩
theorem B9g:∀x y:List UInt8,(Op.bytesLess x y&&Op.bytesLess y x)=false∧(Op.bytesLess x y||Op.bytesLess y x)= !decide (x=y)
 |[],[]=>by simp[Op.bytesLess]
 |[],b::y=>by simp[Op.bytesLess]
 |a::x,[]=>by simp[Op.bytesLess]
 |a::x,b::y=>by
  obtain⟨h1,h2⟩:=B9g x y
  simp only[Op.bytesLess]
  by_cases h:a=b
  ·subst h
   simp only[show(a<a)=False from eq_false (UInt8.lt_irrefl a),zH,Bool.false_or,BEq.rfl,zG1,h1,h2,List.cons.injEq,true_and]
  ·have hn:¬b=a:=fun e=>h e.symm
   have e1:(a==b)=false:=by simp[h]
   have e2:(b==a)=false:=by simp[hn]
   simp only[e1,e2,Bool.false_and,Bool.or_false,List.cons.injEq,h,false_and,zH,zU]
   rcases UInt8.lt_or_lt_of_ne h with g|g
   ·have:¬b<a:=UInt8.lt_asymm g
    simp[g,this]
   ·have:¬a<b:=UInt8.lt_asymm g
    simp[g,this]
theorem C59 {x y:B41}(hx:B37 x.1 x.2.1 x.2.2=true)(hy:B37 y.1 y.2.1 y.2.2=true):(B3v x y&&B3v y x)=false∧(B3v x y||B3v y x)= !decide (x=y):=by
 obtain⟨a,b,s⟩:=x;obtain⟨c,d,t⟩:=y
 simp only[B3v,hx,hy,zG1]
 by_cases h1:a=c
 ·subst h1
  by_cases h2:b=d
  ·subst h2
   simp only[if_true]
   obtain⟨g1,g2⟩:=B9g s.toList t.toList
   refine⟨g1,?_⟩
   rw[g2]
   simp[C6e]
  ·simp only[if_true,if_neg h2,if_neg (fun e:d=b=>h2 e.symm)]
   have:¬((a,(b,s)):B41)=(a,(d,t)):=by simp[h2]
   rw[zK this]
   by_cases h3:b<d
   ·simp[h3];omega
   ·have:d<b:=by omega
    simp[h3,this]
 ·simp only[if_neg h1,if_neg (fun e:c=a=>h1 e.symm)]
  have:¬((a,(b,s)):B41)=(c,(d,t)):=by simp[h1]
  rw[zK this]
  by_cases h3:a<c
  ·simp[h3];omega
  ·have:c<a:=by omega
   simp[h3,this]
def B8g {α S:Type}(f:Nat→α→S→S):Nat→List α→S→S
 |_,[],s=>s
 |k,x::t,s=>B8g f (k+1) t (f k x s)
theorem C27 {α S T:Type}(l:List α)(f:Nat→α→S→S)(L:Nat→Nat→S→T)(R:S→T)(Inv:Nat→S→Prop)(hinv:∀k (h:k<l.length) s,Inv k s→Inv (k+1) (f k l[k] s))
  (hexit:∀j s,Inv l.length s→L (j+1) l.length s=R s) (hstep:∀j k s (h:k<l.length),Inv k s→L (j+1) k s=L j (k+1) (f k l[k] s)):
  ∀(t:List α) (j k:Nat) (s:S),l.drop k=t→k≤l.length→t.length<j→Inv k s→L j k s=R (B8g f k t s)
 |[],j+1,k,s,hd,hk,_,hs=>by
  have:k=l.length:=by
   rcases zE1 k l.length with h'|h'
   ·rw[zC1 h']at hd;cases hd
   ·omega
  subst this;rw[hexit _ _ hs];rfl
 |x::t,j+1,k,s,hd,hk,hj,hs=>by
  obtain⟨h2,h3,h4⟩:=B34 hd x
  have hx:l[k]=x:=by simpa[List.getD,h2]using h3
  rw[hstep j k s h2 hs,C27 l f L R Inv hinv hexit hstep t j (k+1) _ h4 (by omega) (by simp at hj;omega) (hinv k h2 s hs)]
  simp only[B8g,hx]
def C1t {α:Type}(l:List α)(i:Nat):List α:=l.take i++l.drop (i+1)
theorem C7x {α:Type}{l:List α}{i:Nat}(h:i<l.length):B1f l (i:Int) ((i+1:Nat):Int)=some (C1t l i):=by
 unfold B1f
 rw[zD (by omega)];rfl
def C1r (x:D3)(l:R2)(key:B26):R2×(Int×Unit):=
 if B2p x l=true then(if C17 x key=true∧0≤idx (fun r=>decide (D0 x.2.1 x.2.2 r=key)) l then(C1t l (idx (fun r=>decide (D0 x.2.1 x.2.2 r=key)) l).toNat,(0,()))else([],(5,())))else([],(1,()))
theorem B8o {x:D3}{l:R2}(h:B2p x l=true):∀r∈l,r.length=x.2.1.length:=fun r hr=>B3s ((B5e h).2.2 r hr)
theorem C29:EV fun n=>∀(x:D3) (l:R2) (key:B26),B2h 1048576 x→B3w 1048576 l→B6t n x.1 x.2.1 x.2.2 l key=some (C1r x l key):=(B5q.and (B78.and (C3g.and (B7h.and (EV.gt 0))))).up fun n ⟨h1,h2,h3,h4,hn⟩ x l key hs hl=>by
 obtain⟨m,rfl⟩:∃m,n=m+1:=⟨n - 1,by omega⟩
 simp only[B6t,h1 x l hs hl.1,h3 x key hs,zC,C1r]
 cases hr:B2p x l
 ·simp
 simp only[zT,zA,if_true,h2 x l key hs hl.1 (B5e hr).1 (B8o hr),zC,h4 l hl,B2y]
 cases hk:C17 x key
 ·simp
 obtain⟨b1,b2⟩:=B8h (fun r:B3h=>decide (D0 x.2.1 x.2.2 r=key)) l
 generalize idx (fun r:B3h=>decide (D0 x.2.1 x.2.2 r=key)) l=i at b1 b2
 have:=hl.1
 by_cases c:i<0
 ·rw[zD c,if_neg (fun h=>absurd h.2 (by omega))];rfl
 ·obtain⟨i,rfl⟩:=Int.eq_ofNat_of_zero_le (show 0≤i by omega)
  rw[zK c,if_pos ⟨rfl,by omega⟩]
  have hi:i<l.length:=by omega
  simp only[zT,zA,zC,zE,V1 hi (by omega),C7x hi]
theorem B8p:B3w 1048576 []:=⟨Nat.zero_le _,by simp⟩
theorem B7w:∀{x y z:List UInt8},Op.bytesLess x y=true→Op.bytesLess y z=true→Op.bytesLess x z=true
 |_,[],_,h,_=>by cases ‹List UInt8›<;>simp[Op.bytesLess]at h
 |_,_::_,[],_,h=>by simp[Op.bytesLess]at h
 |[],_::_,_::_,_,_=>by simp[Op.bytesLess]
 |a::x,b::y,c::z,h1,h2=>by
  simp only[Op.bytesLess,Bool.or_eq_true,zJ,zG,beq_iff_eq]at h1 h2⊢
  rcases h1 with h1|⟨rfl,h1⟩
  ·rcases h2 with h2|⟨rfl,_⟩
   ·exact .inl (UInt8.lt_trans h1 h2)
   ·exact .inl h1
  ·rcases h2 with h2|⟨rfl,h2⟩
   ·exact .inl h2
   ·exact .inr ⟨rfl,B7w h1 h2⟩
theorem C48 {x y z:B41}(h1:B3v x y=true)(h2:B3v y z=true):B3v x z=true:=by
 obtain⟨a,b,s⟩:=x;obtain⟨c,d,t⟩:=y;obtain⟨e,f,u⟩:=z
 simp only[B3v,zJ]at h1 h2⊢
 refine⟨⟨h1.1.1,h2.1.2⟩,?_⟩
 have k1:=h1.2;have k2:=h2.2
 by_cases e1:a=c
 ·subst e1
  rw[if_pos rfl]at k1
  by_cases e2:a=e
  ·subst e2
   rw[if_pos rfl]at k2⊢
   by_cases e3:b=d
   ·subst e3
    rw[if_pos rfl]at k1
    by_cases e4:b=f
    ·subst e4;rw[if_pos rfl]at k2⊢;exact B7w k1 k2
    ·rw[if_neg e4]at k2⊢;exact k2
   ·rw[if_neg e3,zG]at k1
    by_cases e4:d=f
    ·subst e4;rw[if_neg e3];exact zD k1
    ·rw[if_neg e4,zG]at k2
     rw[if_neg (by omega)];exact zD (by omega)
  ·rw[if_neg e2]at k2⊢;exact k2
 ·rw[if_neg e1,zG]at k1
  by_cases e2:c=e
  ·subst e2;rw[if_neg e1];exact zD k1
  ·rw[if_neg e2,zG]at k2
   rw[if_neg (by omega)];exact zD (by omega)
def C57 (a:B26):Prop:=∀v∈a,B37 v.1 v.2.1 v.2.2=true
theorem B8j:∀{a b:B26},a.length=b.length→C57 a→C57 b→(B2b a b&&B2b b a)=false∧(B2b a b||B2b b a)= !decide (a=b)
 |[],[],_,_,_=>by simp[B2b]
 |[],_::_,h,_,_=>by simp at h
 |_::_,[],h,_,_=>by simp at h
 |x::s,y::t,h,ha,hb=>by
  have ih:=B8j (a:=s) (b:=t) (by simpa using h) (fun v hv=>ha v (zF _ hv)) (fun v hv=>hb v (zF _ hv))
  have hv:=C59 (ha x (zM ..)) (hb y (zM ..))
  simp only[B2b]
  by_cases e:x=y
  ·subst e;simp only[if_true,List.cons.injEq,true_and];exact ih
  ·rw[if_neg e,if_neg (fun h=>e h.symm)]
   refine⟨hv.1,?_⟩
   rw[hv.2,zK e,zK (fun h=>e (List.cons.inj h).1)]
theorem B65:∀{a b c:B26},a.length=b.length→b.length=c.length→C57 a→C57 b→C57 c→B2b a b=true→B2b b c=true→B2b a c=true
 |[],[],_,_,_,_,_,_,h,_=>by simp[B2b]at h
 |[],_::_,_,h,_,_,_,_,_,_=>by simp at h
 |_::_,[],_,h,_,_,_,_,_,_=>by simp at h
 |_::_,_::_,[],_,h,_,_,_,_,_=>by simp at h
 |x::s,y::t,z::u,h1,h2,ha,hb,hc,k1,k2=>by
  simp only[B2b]at k1 k2⊢
  by_cases e1:x=y
  ·subst e1
   rw[if_pos rfl]at k1
   by_cases e2:x=z
   ·subst e2
    rw[if_pos rfl]at k2⊢
    exact B65 (by simpa using h1) (by simpa using h2) (fun v hv=>ha v (zF _ hv)) (fun v hv=>hb v (zF _ hv)) (fun v hv=>hc v (zF _ hv)) k1 k2
   ·rw[if_neg e2]at k2⊢;exact k2
  ·rw[if_neg e1]at k1
   by_cases e2:y=z
   ·subst e2;rw[if_neg e1];exact k1
   ·rw[if_neg e2]at k2
    have k3:=C48 k1 k2
    by_cases e3:x=z
    ·subst e3
     have:=(C59 (ha x (zM ..)) (hb y (zM ..))).1
     rw[k1,k2]at this;cases this
    ·rw[if_neg e3];exact k3
theorem B6w {x:D3}(ht:B2d x=true){r:B3h}(hr:B2t x.2.1 r=true):C57 (D0 x.2.1 x.2.2 r):=by
 intro v hv
 simp only[D0,List.mem_map]at hv
 obtain⟨key,hk,rfl⟩:=hv
 obtain⟨h1,h2,_⟩:=(B5n ht).1 key hk
 simp only[B2t,zJ,zG]at hr
 have hi:(B29 x.2.1 key).toNat<x.2.1.length:=by omega
 have:=(B31 _ _ _).mp hr.2 _ hi
 simp only[zS,B57]at this
 generalize r.getD (B29 x.2.1 key).toNat B6a=v at this
 revert this
 cases B37 v.1 v.2.1 v.2.2<;>simp
theorem C2z {α T:Type}(p:α→Bool)(l:List α)(L:Nat→Nat→T)(R:Nat→T)(hexit:∀j,L (j+1) l.length=R l.length)(hstep:∀j k (h:k<l.length),L (j+1) k=if p l[k]=true then L j (k+1)else R k):
  ∀(t:List α) (j k:Nat),l.drop k=t→k≤l.length→t.length<j→L j k=R (k+(t.takeWhile p).length)
 |[],j+1,k,hd,hk,_=>by
  have:k=l.length:=by
   rcases zE1 k l.length with h'|h'
   ·rw[zC1 h']at hd;cases hd
   ·omega
  subst this;rw[hexit];rfl
 |x::t,j+1,k,hd,hk,hj=>by
  obtain⟨h2,h3,h4⟩:=B34 hd x
  have hx:l[k]=x:=by simpa[List.getD,h2]using h3
  rw[hstep j k h2,hx]
  by_cases hp:p x=true
  ·rw[if_pos hp,C2z p l L R hexit hstep t j (k+1) h4 (by omega) (by simp at hj;omega),List.takeWhile_cons_of_pos hp]
   simp only[zW];congr 1;omega
  ·rw[if_neg hp,List.takeWhile_cons_of_neg hp];rfl
theorem takeWhile_take {α:Type}(p:α→Bool):∀l:List α,l.take (l.takeWhile p).length=l.takeWhile p∧l.drop (l.takeWhile p).length=l.dropWhile p
 |[]=>by simp
 |x::t=>by
  obtain⟨h1,h2⟩:=takeWhile_take p t
  by_cases hp:p x=true
  ·simp[List.takeWhile_cons_of_pos hp,List.dropWhile_cons_of_pos hp,h1,h2]
  ·simp[List.takeWhile_cons_of_neg hp,List.dropWhile_cons_of_neg hp]
theorem C52 {α:Type}(p:α→Bool)(l:List α):(l.takeWhile p).length≤l.length:=by
 have:=congrArg List.length (takeWhile_take p l).1
 rw[List.length_take]at this;omega
def B58 (x:D3)(r y:B3h):Bool:=B2b (D0 x.2.1 x.2.2 y) (D0 x.2.1 x.2.2 r)
def B33 (x:D3)(l:R2)(r:B3h):R2:=l.takeWhile (B58 x r)++[r]++l.dropWhile (B58 x r)
theorem C7z {α:Type}{l:List α}{i:Nat}{r:α}(h:i≤l.length)(hl:l.length≤1048576):B1k 24 l (i:Int) [r]=some (l.take i++[r]++l.drop i):=by
 unfold B1k
 rw[zD ⟨rfl,by omega,by omega⟩]
 have:room (l.length+1) 24=true:=by simp only[room,zG];omega
 rw[this];rfl
theorem C70 {α:Type}(o:Option α):(o.bind fun r=>some r)=o:=by cases o<;>rfl
theorem C2b:EV fun n=>∀(x:D3) (l:R2) (r:B3h),B2h 1048576 x→B3w 1048576 l→r.length≤1048576→B2d x=true→(∀y∈l,y.length=x.2.1.length)→r.length=x.2.1.length→B6u n x.1 x.2.1 x.2.2 l r=some (B33 x l r):=
 (B5c.and (B7x.and (B7h.and (B7i.and (EV.gt 1048577))))).up fun n ⟨h1,h2,h3,h4,hn⟩ x l r hs hl hr ht hy hr2=>by
 have hll:=hl.1
 obtain⟨m,rfl⟩:∃m,n=m+1:=⟨n - 1,by omega⟩
 simp only[B6u]
 refine(C2z (B58 x r) l (fun j k=>B43 (m+1) j l (k:Int) x.1 x.2.1 x.2.2 r) (fun k=>B1k 24 l (k:Int) [r]) (fun j=>?_) (fun j k hk=>?_) l (m+1) 0 rfl (by omega) (by omega)).trans ?_
 ·simp only[B43,R1,zP,zH,zA,h3 l hl,h4 r hr,zC,B2e,C70]
 ·have e:=h2 (D0 x.2.1 x.2.2 l[k]) (D0 x.2.1 x.2.2 r) (by rw[B2v];exact hs.2.2.1)
  simp only[B43,R1,zD hk,D5 hk,zE,getD_at hk,zB,V1 hk (by omega),h1 x l[k] hs ht (hy _ (zL hk)),h1 x r hs ht hr2,e,zC,h3 l hl,h4 r hr,B2e,C70,B58]
  exact B7e _ _
 ·have:=C52 (B58 x r) l
  rw[zS,C7z this hll,(takeWhile_take _ _).1,(takeWhile_take _ _).2];rfl
def B66 (x:D3)(r:B3h)(y:B3h)(s:Bool×R2):Bool×R2:=if s.1=true then(true,s.2++[y])else if B2b (D0 x.2.1 x.2.2 r) (D0 x.2.1 x.2.2 y)=true then(true,s.2++[r]++[y])else(false,s.2++[y])
def B9m (r:B3h)(s:Bool×R2):R2:=if s.1=true then s.2 else s.2++[r]
theorem C58 (x:D3)(r:B3h):∀(t:R2) (k:Nat) (acc:R2),B8g (fun _=>B66 x r) k t (true,acc)=(true,acc++t)
 |[],k,acc=>by simp[B8g]
 |y::t,k,acc=>by
  simp only[B8g,B66,if_true]
  rw[C58 x r t];simp
theorem lay_all (x:D3)(r:B3h):∀(t:R2) (k:Nat) (acc:R2),(∀y∈t,B2b (D0 x.2.1 x.2.2 r) (D0 x.2.1 x.2.2 y)= !B58 x r y)→B9m r (B8g (fun _=>B66 x r) k t (false,acc))=acc++B33 x t r
 |[],k,acc,_=>by simp[B8g,B9m,B33]
 |y::t,k,acc,h=>by
  have hy:=h y (zM ..)
  simp only[B8g,B66,Bool.false_eq_true,if_false]
  cases hp:B58 x r y
  ·rw[hp]at hy
   rw[if_pos (by simpa using hy),C58]
   simp[B9m,B33,List.takeWhile_cons_of_neg (show¬B58 x r y=true by simp[hp]),List.dropWhile_cons_of_neg (show¬B58 x r y=true by simp[hp])]
  ·rw[hp]at hy
   rw[if_neg (by simp[hy]),lay_all x r t _ _ fun z hz=>h z (zF _ hz)]
   simp[B33,List.takeWhile_cons_of_pos hp,List.dropWhile_cons_of_pos hp]
theorem C2i:EV fun n=>∀(x:D3) (l:R2) (r:B3h),B2h 1048576 x→B3w 1048576 l→r.length≤1048576→B2d x=true→(∀y∈l,y.length=x.2.1.length)→r.length=x.2.1.length→
  B74 n x.1 x.2.1 x.2.2 l r=some (B9m r (B8g (fun _=>B66 x r) 0 l (false,[]))):=(B5y.and (B6f.and (C2j.and (EV.gt 1048577)))).up fun n ⟨h1,h2,h3,hn⟩ x l r hs hl hr ht hy hr2=>by
 have hll:=hl.1
 simp only[B74]
 refine C27 l (fun _=>B66 x r) (fun j k (s:Bool×R2)=>B32 n j s.1 l (l.length:Int) (k:Int) x.1 x.2.1 x.2.2 r s.2) (fun s=>some (B9m r s)) (fun k s=>(s.1=false→s.2.length≤k)∧s.2.length≤k+1) (fun k hk s h1=>?_) (fun j s h=>?_) (fun j k s hk ha=>?_) l n 0 (false,[]) rfl (by omega) (by omega) ⟨fun _=>Nat.le_refl 0,Nat.zero_le _⟩
 ·obtain⟨b,acc⟩:=s
  obtain⟨h1,h2⟩:=h1
  cases b
  ·have:=h1 rfl
   simp only[B66,Bool.false_eq_true,if_false]
   split
   ·refine⟨fun h=>(by cases h),?_⟩
    simp;dsimp only at this;omega
   ·refine⟨fun _=>?_,?_⟩<;>(simp;dsimp only at this;omega)
  ·simp only[B66,if_true]
   refine⟨fun h=>(by cases h),?_⟩
   simp;dsimp only at h2;omega
 ·obtain⟨h0,h⟩:=h
  have r3:room (s.2.length+[r].length) 24=true:=by simp only[room,zG,zW,zX];omega
  simp only[B32,R1,zP,zH,zA,h3 r hr,zC,r3,zB,B9m]
  cases s.1<;>rfl
 ·obtain⟨_,ha⟩:=ha
  have e:=h3 l[k] (hl.2 _ (zL hk)).1
  have e2:=h2 (D0 x.2.1 x.2.2 r) (D0 x.2.1 x.2.2 l[k]) (by rw[B2v];exact hs.2.2.1)
  have r3:∀y:B26,room (s.2.length+[y].length) 24=true:=fun y=>by simp only[room,zG,zW,zX];omega
  have r4:∀y z:B26,room ((s.2++[y]).length+[z].length) 24=true:=fun y z=>by simp only[room,zG,List.length_append,zW,zX];omega
  simp only[B32,R1,zD hk,D5 hk,zE,getD_at hk,zB,V1 hk (by omega),e,h3 r hr,h1 x r hs ht hr2,h1 x l[k] hs ht (hy _ (zL hk)),e2,zC,r3,r4,B66]
  obtain⟨b,acc⟩:=s
  cases b
  ·cases B2b (D0 x.2.1 x.2.2 r) (D0 x.2.1 x.2.2 l[k])<;>rfl
  ·rfl
theorem C56 {α:Type}(p:α→Bool):∀(l:List α) (k:Nat),idxFrom p l k= -1↔∀y∈l,p y=false
 |[],k=>by simp[idxFrom]
 |x::t,k=>by
  simp only[idxFrom,List.mem_cons,forall_eq_or_imp]
  by_cases h:p x=true
  ·rw[if_pos h]
   constructor
   ·intro e;omega
   ·intro e;rw[e.1]at h;cases h
  ·rw[if_neg h,C56 p t (k+1)]
   simp at h
   simp[h]
theorem C6n {α:Type}(p:α→Bool)(l:List α):¬0≤idx p l↔∀y∈l,p y=false:=by
 rw[←C56 p l 0]
 have:=(B8h p l).1
 unfold idx at this⊢
 omega
theorem C5i {x:D3}{l:R2}{r:B3h}(ht:B2d x=true)(hl:∀y∈l,B2t x.2.1 y=true)(hr:B2t x.2.1 r=true)(hk:∀y∈l,D0 x.2.1 x.2.2 y≠D0 x.2.1 x.2.2 r):
  B9m r (B8g (fun _=>B66 x r) 0 l (false,[]))=B33 x l r:=by
 rw[lay_all x r l 0 [] fun y hy=>?_]
 ·rfl
 ·obtain⟨h1,h2⟩:=B8j (a:=D0 x.2.1 x.2.2 y) (b:=D0 x.2.1 x.2.2 r) (by rw[B2v,B2v]) (B6w ht (hl y hy)) (B6w ht hr)
  rw[zK (hk y hy)]at h2
  unfold B58
  revert h1 h2
  cases B2b (D0 x.2.1 x.2.2 y) (D0 x.2.1 x.2.2 r)<;>cases B2b (D0 x.2.1 x.2.2 r) (D0 x.2.1 x.2.2 y)<;>simp
theorem C2f {x:D3}{l:R2}{r y:B3h}(h:y∈B33 x l r):y∈l∨y=r:=by
 unfold B33 at h
 simp only[zY,zF1]at h
 rcases h with(h|h)|h
 ·exact .inl (by rw[←List.takeWhile_append_dropWhile (p:=B58 x r) (l:=l)];exact zZ _ h)
 ·exact .inr h
 ·exact .inl (by rw[←List.takeWhile_append_dropWhile (p:=B58 x r) (l:=l)];exact zA1 _ h)
theorem C2e (x:D3)(l:R2)(r:B3h):(B33 x l r).length=l.length+1:=by
 have:=congrArg List.length (List.takeWhile_append_dropWhile (p:=B58 x r) (l:=l))
 simp only[List.length_append]at this
 simp[B33];omega
def B7o (x:D3)(l:R2)(key:B26):Int:=idx (fun r=>decide (D0 x.2.1 x.2.2 r=key)) l
def B2z (x:D3)(l:R2)(r:B3h):R2×(Int×Unit):=
 if B2p x l=true then(if B2t x.2.1 r=true then(if 0≤B7o x l (D0 x.2.1 x.2.2 r)then([],(3,()))else if l.length=60 then([],(4,()))else(B33 x l r,(0,())))else([],(2,())))else([],(1,()))
theorem C5n {x:D3}{l:R2}{key:B26}(h:¬0≤B7o x l key):∀y∈l,D0 x.2.1 x.2.2 y≠key:=fun y hy e=>by
 have:=(C6n _ _).mp h y hy
 rw[zD e]at this;cases this
theorem B8l:EV fun n=>∀(x:D3) (l:R2) (r:B3h),B2h 1048576 x→B3w 1048576 l→r.length≤1048576→B6b n x.1 x.2.1 x.2.2 l r=some (B2z x l r):=(B8m.and (B9h.and (B5y.and (C3k.and C2i)))).up fun n ⟨h1,h2,h3,h4,h5⟩ x l r hs hl hrl=>by
 simp only[B6b,h1 x l hs hl.1,h2 x r hs,zC,B2z,B35]
 cases hr:B2p x l
 ·simp
 have ht:=(B5e hr).1
 simp only[zT,zA,if_true,ht,zG1]
 cases hi:B2t x.2.1 r
 ·simp
 simp only[zT,zA,if_true,h3 x r hs ht (B3s hi),h4 x l _ hs hl.1,zC,B9k,hr]
 rw[show idx (fun y=>decide (D0 x.2.1 x.2.2 y=D0 x.2.1 x.2.2 r)) l=B7o x l (D0 x.2.1 x.2.2 r)from rfl]
 by_cases c:0≤B7o x l (D0 x.2.1 x.2.2 r)
 ·rw[zD c,if_pos c];rfl
 ·rw[zK c,if_neg c]
  by_cases c2:l.length=60
  ·rw[zD (by omega),if_pos c2];rfl
  ·rw[zK (by omega),if_neg c2,h5 x l r hs hl hrl ht (B8o hr) (B3s hi),C5i ht (B5e hr).2.2 hi (C5n c)];rfl
theorem C2a:EV fun n=>∀(x:D3) (l:R2) (r:B3h),B2h 1048576 x→B3w 1048576 l→r.length≤1048576→B68 n x.1 x.2.1 x.2.2 l r=some (B2z x l r):=(B5q.and (B79.and (B5c.and (B78.and C2b)))).up fun n ⟨h1,h2,h3,h4,h5⟩ x l r hs hl hrl=>by
 simp only[B68,h1 x l hs hl.1,zC,B2z,B35]
 cases hr:B2p x l
 ·simp
 have ht:=(B5e hr).1
 simp only[zT,zA,if_true,h2 x r hs ht,zC]
 cases hi:B2t x.2.1 r
 ·simp
 simp only[zT,zA,if_true,h3 x r hs ht (B3s hi),h4 x l _ hs hl.1 ht (B8o hr),zC]
 rw[show idx (fun y=>decide (D0 x.2.1 x.2.2 y=D0 x.2.1 x.2.2 r)) l=B7o x l (D0 x.2.1 x.2.2 r)from rfl]
 by_cases c:0≤B7o x l (D0 x.2.1 x.2.2 r)
 ·rw[zD c,if_pos c];rfl
 ·rw[zK c,if_neg c]
  by_cases c2:l.length=60
  ·rw[zD (by omega),if_pos c2];rfl
  ·rw[zK (by omega),if_neg c2,h5 x l r hs hl hrl ht (B8o hr) (B3s hi)];rfl
theorem C5a {x:D3}{l:R2}(h:B2p x l=true):∀i j (hi:i<j) (hj:j<l.length),B2b (D0 x.2.1 x.2.2 l[i]) (D0 x.2.1 x.2.2 l[j])=true:=by
 obtain⟨ht,_,hin⟩:=B5e h
 simp only[B2p,zJ]at h
 have hstep:∀k (hk:k+1<l.length),B2b (D0 x.2.1 x.2.2 l[k]) (D0 x.2.1 x.2.2 l[k+1])=true:=fun k hk=>by
  have:=(B31 _ _ _).mp h.2 (k+1) hk
  simp only[zS,B2i,zJ,Nat.add_sub_cancel,getD_at (show k<l.length by omega)]at this
  simpa using this.2
 intro i j hi
 induction j with
 |zero=>omega
 |succ j ih=>
  intro hj
  by_cases e:i=j
  ·subst e;exact hstep i hj
  ·have k1:=ih (by omega) (by omega)
   have hv:∀q (hq:q<l.length),C57 (D0 x.2.1 x.2.2 l[q]):=fun q hq=>B6w ht (hin _ (zL hq))
   exact B65 (by rw[B2v,B2v]) (by rw[B2v,B2v]) (hv _ _) (hv _ _) (hv _ _) k1 (hstep j hj)
theorem C2g {x:D3}{l:R2}(ht:B2d x=true)(hl:l.length≤60)(hin:∀r∈l,B2t x.2.1 r=true)(hs:∀k (hk:k+1<l.length),B2b (D0 x.2.1 x.2.2 l[k]) (D0 x.2.1 x.2.2 l[k+1])=true):B2p x l=true:=by
 simp only[B2p,ht,zD hl,zG1]
 refine(B31 _ _ _).mpr fun i hi=>?_
 simp only[zS,B2i,hin _ (zL hi),zG1,Bool.or_eq_true,zG]
 cases i with
 |zero=>exact .inl rfl
 |succ i=>
  right
  rw[Nat.add_sub_cancel,getD_at (show i<l.length by omega)]
  exact hs i hi
theorem C69 {α:Type}(p:α→Bool):∀(l:List α) (k i:Nat),idxFrom p l k=((k+i:Nat):Int)→∃h:i<l.length,p l[i]=true
 |[],k,i,h=>by simp only[idxFrom]at h;omega
 |x::t,k,i,h=>by
  simp only[idxFrom]at h
  split at h
  ·rename_i hp
   obtain rfl:i=0:=by omega
   exact⟨by simp,hp⟩
  ·rcases C1a p t (k+1)with e|e
   ·omega
   ·obtain⟨i,rfl⟩:∃i',i=i'+1:=⟨i - 1,by omega⟩
    obtain⟨h1,h2⟩:=C69 p t (k+1) i (by rw[h];congr 1;omega)
    exact⟨by simp;exact h1,by simpa using h2⟩
theorem C54 (cs:B2f)(s:ByteArray):B29 cs s<0∨∃k:Nat,B29 cs s=(k:Int)∧∃hk:k<cs.length,cs[k].1=s:=by
 by_cases c:0≤B29 cs s
 ·obtain⟨k,e⟩:=Int.eq_ofNat_of_zero_le c
  obtain⟨hk,e2⟩:=C69 (fun c:B67=>decide (c.1=s)) cs 0 k (by rw[zS];exact e)
  exact .inr ⟨k,e,hk,by simpa using e2⟩
 ·exact .inl (by omega)
theorem C5t {x:D3}(h:B2d x=true){k:ByteArray}(hk:k∈x.2.2):∃p:Nat,B29 x.2.1 k=(p:Int)∧∃hp:p<x.2.1.length,x.2.1[p].1=k∧x.2.1[p].2.2.1=true:=by
 obtain⟨a1,a2,a3⟩:=(B5n h).1 k hk
 rcases C54 x.2.1 k with c|⟨p,e,hp,e2⟩
 ·omega
 ·refine⟨p,e,hp,e2,?_⟩
  rw[e,zE,getD_at hp]at a3
  exact a3
theorem C5x {cs:B2f}{r:B26}:B2t cs r=true↔r.length=cs.length∧∀i (h1:i<cs.length) (h2:i<r.length),B57 cs[i] r[i]=true:=by
 simp only[B2t,zJ,zG]
 constructor
 ·rintro⟨h1,h2⟩
  refine⟨h1,fun i hi hi2=>?_⟩
  have:=C53 h2 hi
  rwa[getD_at hi2]at this
 ·rintro⟨h1,h2⟩
  refine⟨h1,(B31 _ _ _).mpr fun i hi=>?_⟩
  rw[zS,getD_at (show i<r.length by omega)]
  exact h2 i hi (by omega)
theorem C5v {x:D3}{l:R2}{r:B3h}(h:B2p x l=true)(hlen:l.length<60)(hr:B2t x.2.1 r=true)(hno:∀y∈l,D0 x.2.1 x.2.2 y≠D0 x.2.1 x.2.2 r):B2p x (B33 x l r)=true:=by
 obtain⟨ht,h60,hin⟩:=B5e h
 have hp:l.Pairwise fun a b=>B2b (D0 x.2.1 x.2.2 a) (D0 x.2.1 x.2.2 b)=true:=List.pairwise_iff_getElem.mpr fun i j hi hj hij=>C5a h i j hij hj
 have hv:∀y,B2t x.2.1 y=true→C57 (D0 x.2.1 x.2.2 y):=fun y hy=>B6w ht hy
 have hlk:∀a b:B3h,(D0 x.2.1 x.2.2 a).length=(D0 x.2.1 x.2.2 b).length:=fun a b=>by rw[B2v,B2v]
 have hdl:∀y∈l.dropWhile (B58 x r),B2b (D0 x.2.1 x.2.2 r) (D0 x.2.1 x.2.2 y)=true:=by
  cases hd:l.dropWhile (B58 x r)with
  |nil=>intro y hy;cases hy
  |cons z t=>
   have hsub:(z::t).Sublist l:=by rw[←hd];exact List.dropWhile_sublist _
   have hzl:z∈l:=hsub.subset (zM ..)
   have hz:B58 x r z=false:=by
    have:=List.head_dropWhile_not (B58 x r) (by rw[hd];simp:l.dropWhile (B58 x r)≠[])
    simpa[hd]using this
   have hrz:B2b (D0 x.2.1 x.2.2 r) (D0 x.2.1 x.2.2 z)=true:=by
    have:=(B8j (hlk z r) (hv z (hin z hzl)) (hv r hr)).2
    rw[zK (hno z hzl)]at this
    have hz':B2b (D0 x.2.1 x.2.2 z) (D0 x.2.1 x.2.2 r)=false:=hz
    rw[hz',Bool.false_or]at this
    exact this
   intro y hy
   rcases List.mem_cons.mp hy with e|e
   ·rw[e];exact hrz
   ·have hpz:=(List.pairwise_cons.mp (hp.sublist hsub)).1 y e
    have hyl:y∈l:=hsub.subset (zF _ e)
    exact B65 (hlk r z) (hlk z y) (hv r hr) (hv z (hin z hzl)) (hv y (hin y hyl)) hrz hpz
 have htk:∀y∈l.takeWhile (B58 x r),B2b (D0 x.2.1 x.2.2 y) (D0 x.2.1 x.2.2 r)=true:=fun y hy=>by
  have:=List.all_takeWhile (p:=B58 x r) (l:=l)
  exact List.all_eq_true.mp this y hy
 have hpp:(B33 x l r).Pairwise fun a b=>B2b (D0 x.2.1 x.2.2 a) (D0 x.2.1 x.2.2 b)=true:=by
  unfold B33
  rw[List.append_assoc]
  refine List.pairwise_append.mpr ⟨hp.sublist (List.takeWhile_sublist _),?_,fun a ha b hb=>?_⟩
  ·refine List.pairwise_cons.mpr ⟨fun y hy=>hdl y hy,hp.sublist (List.dropWhile_sublist _)⟩
  ·rcases List.mem_cons.mp hb with e|e
   ·rw[e];exact htk a ha
   ·have hal:a∈l:=(List.takeWhile_sublist _).subset ha
    have hbl:b∈l:=(List.dropWhile_sublist _).subset e
    exact B65 (hlk a r) (hlk r b) (hv a (hin a hal)) (hv r hr) (hv b (hin b hbl)) (htk a ha) (hdl b e)
 refine C2g ht (by rw[C2e];omega) (fun y hy=>?_) fun k hk=>List.pairwise_iff_getElem.mp hpp k (k+1) (by omega) hk (by omega)
 rcases C2f hy with e|e
 ·exact hin y e
 ·rw[e];exact hr
theorem B30.bind {α γ:Type}{b:List Int}{P:α→Prop}{Q:Option γ→Prop}{r:Option (α×(((List Int)×(Int×Int))×Unit))}{f:α×(((List Int)×(Int×Int))×Unit)→Option γ}
  (h:B30 b P r) (hf:∀x i g,0≤i→P x→Q (f (x,((b,(i,g)),())))):Q (r.bind f):=by
 obtain⟨x,i,g,rfl,hi,px⟩:=h
 exact hf x i g hi px
theorem B3q {γ:Type}{Q:Option γ→Prop}{c:Bool}{A B:Option γ}(h1:c=true→Q A)(h0:c=false→Q B):Q (bif c then A else B):=by
 cases c
 ·exact h0 rfl
 ·exact h1 rfl
theorem B6g {γ:Type}{Q:Option γ→Prop}{c:Bool}{A:Option γ}(hc:c=true)(h:Q A):Q (bif c then A else none):=by
 subst hc;exact h
theorem B30.mk {α:Type}{b:List Int}{P:α→Prop}{x:α}{i g:Int}(hi:0≤i)(hp:P x):B30 b P (some (x,((b,(i,g)),()))):=⟨x,i,g,rfl,hi,hp⟩
theorem B30.mono {α:Type}{b:List Int}{P Q:α→Prop}{r:Option (α×(((List Int)×(Int×Int))×Unit))}(h:B30 b P r)(hq:∀x,P x→Q x):B30 b Q r:=by
 obtain⟨x,i,g,e,hi,px⟩:=h
 exact⟨x,i,g,e,hi,hq x px⟩
theorem C0f {x:Int}{m n:Nat}(hm:0<m)(hn:m=n)(q:((0:Int)<(m:Int)→0≤x∧x<(m:Int))∧((m:Int)≤0→x=0)):inR x n=true:=by
 obtain⟨h1,h2⟩:=q.1 (by omega)
 exact zD ⟨h1,by omega⟩
theorem C28 {l:List ByteArray}{k:Nat}{m:Nat}(h:∀x∈l,x.size≤m):(l.getD k E0).size≤m:=by
 by_cases hk:k<l.length
 ·rw[getD_at hk];exact h _ (zL hk)
 ·rw[List.getD,List.getElem?_eq_none (by omega)];exact Nat.zero_le _
theorem C1d:EV fun n=>∀(b:List Int) (i h:Int),b.length≤1048576→0≤i→B30 b (fun s:ByteArray=>s.size≤9) (B5v n b i h):=B4f.up fun n hW b i h hb hi=>by
 simp only[B5v]
 refine(hW b i h 6 hb hi (by omega)).bind fun x i1 g1 p1 q1=>?_
 refine B6g (C0f (m:=6) (by decide) (by decide) q1) (.mk p1 (C28 ?_))
 decide
theorem C5f:EV fun n=>∀(b:List Int) (i h:Int) (w:ByteArray),b.length≤1048576→0≤i→w.size≤1048576→B30 b (B61 1048576) (B72 n b i h w):=(B4f.and C18).up fun n ⟨hW,hO⟩ b i h w hb hi hw=>by
 simp only[B72]
 refine(hW b i h 3 hb hi (by omega)).bind fun x1 i1 g1 p1 q1=>?_
 refine(hW b i1 g1 3 hb p1 (by omega)).bind fun x2 i2 g2 p2 q2=>?_
 refine(hW b i2 g2 2 hb p2 (by omega)).bind fun x3 i3 g3 p3 q3=>?_
 refine B3q (fun _=>?_) fun _=> .mk p3 ⟨hw,Nat.zero_le _⟩
 refine(hO b i3 g3 _ hb p3).bind fun v i4 g4 p4 q4=>?_
 have hv:B62 1048576 v:=Nat.le_trans q4 (by decide)
 exact B3q (fun _=>B3q (fun _=> .mk p4 ⟨hw,Nat.zero_le _⟩) fun _=> .mk p4 ⟨hw,hv⟩) fun _=> .mk p4 ⟨hw,hv⟩
def B2u (m:Nat)(t:D3):Prop:=t.1.size≤9∧1≤t.2.1.length∧t.2.1.length≤m∧t.2.2.length≤m∧(∀c∈t.2.1,B61 1048576 c)∧∀k∈t.2.2,k.size≤1048576
theorem B2u.mono {m n:Nat}{t:D3}(h:B2u m t)(hm:m≤n):B2u n t:=⟨h.1,h.2.1,by have:=h.2.2.1;omega,by have:=h.2.2.2.1;omega,h.2.2.2.2⟩
theorem B2u.sm {m:Nat}{t:D3}(h:B2u m t)(hm:m≤1048576):B2h 1048576 t:=⟨Nat.le_trans h.1 (by decide),⟨Nat.le_trans h.2.2.1 hm,h.2.2.2.2.1⟩,⟨Nat.le_trans h.2.2.2.1 hm,h.2.2.2.2.2⟩⟩
theorem C7i:B61 1048576 CZ:=⟨Nat.zero_le _,Nat.zero_le _⟩
theorem C0g {l:B2f}{k:Nat}(h:∀c∈l,B61 1048576 c):B61 1048576 (l.getD k CZ):=by
 by_cases hk:k<l.length
 ·rw[getD_at hk];exact h _ (zL hk)
 ·rw[List.getD,List.getElem?_eq_none (by omega)];exact C7i
theorem C6u {l:B2f}{k:Nat}{c:B67}(h:∀c∈l,B61 1048576 c)(hc:B61 1048576 c):∀x∈l.set k c,B61 1048576 x:=by
 intro x hx
 rcases List.mem_or_eq_of_mem_set hx with e|e
 ·exact h x e
 ·rw[e];exact hc
theorem C26:EV fun n=>∀(b:List Int) (i h:Int) (w:ByteArray),b.length≤1048576→0≤i→w.size≤9→B30 b (B2u 5) (B5u n b i h w):=(B4f.and (C1d.and (C5f.and (B7a.and (EV.gt 10))))).up fun n ⟨hW,hS,hC,hA,hn⟩ b i h w hb hi hw=>by
 simp only[B5u]
 refine(hW b i h 4 hb hi (by omega)).bind fun x i1 g1 p1 q1=>?_
 have q1:=q1.1 (by omega)
 obtain⟨m,rfl⟩:=Int.eq_ofNat_of_zero_le q1.1
 have loop:∀(m j:Nat) (i g:Int) (e:ByteArray) (cs:B2f),m<j→0≤i→B2u 4 (w,(cs,[⟨#[105,100]⟩]))→cs.length+m≤4→B30 b (B2u 5) (B3b n j (m:Int) b i g e [] [] w cs [⟨#[105,100]⟩]):=by
  intro m
  induction m with
  |zero=>
   intro j i g e cs hj hi ht hm
   obtain⟨j,rfl⟩:∃j',j=j'+1:=⟨j - 1,by omega⟩
   have hl:=ht.2.1
   simp only at hl
   have w1:IntKind.wrap .i64 ((cs.length:Int) - (1:Int))=((cs.length - 1:Nat):Int):=by rw[wrap64]<;>omega
   have e0:decide ((0:Int)<((0:Nat):Int))=false:=rfl
   simp only[B3b,e0,zA,w1,D5 (show cs.length - 1<cs.length by omega),zB,zE]
   refine B3q (fun _=>B3q (fun _=>?_) fun _=> .mk hi (ht.mono (by omega))) fun _=> .mk hi (ht.mono (by omega))
   refine(hW b i g 3 hb hi (by omega)).bind fun x i2 g2 p2 q2=>?_
   refine B3q (fun _=>B6g (by simp[room]) (.mk p2 ?_)) fun _=> .mk p2 (ht.mono (by omega))
   refine⟨ht.1,ht.2.1,Nat.le_trans ht.2.2.1 (by omega),by simp,ht.2.2.2.2.1,fun k hk=>?_⟩
   rcases zY.mp hk with hk|hk
   ·exact ht.2.2.2.2.2 k hk
   ·rw[zF1.mp hk];exact(C0g ht.2.2.2.2.1).1
  |succ m ih=>
   intro j i g e cs hj hi ht hm
   obtain⟨j,rfl⟩:∃j',j=j'+1:=⟨j - 1,by omega⟩
   have e0:decide ((0:Int)<((m+1:Nat):Int))=true:=zD (by omega)
   have w1:IntKind.wrap .i64 (((m+1:Nat):Int) - (1:Int))=(m:Int):=by rw[wrap64]<;>omega
   simp only[B3b,e0,zB,w1]
   refine(hS b i g hb hi).bind fun s i2 g2 p2 q2=>?_
   have hs:s.size≤1048576:=Nat.le_trans q2 (by decide)
   have hcl:cs.length≤1048576:=by omega
   simp only[hA w cs [⟨#[105,100]⟩] s hcl,zC]
   refine B3q (fun _=>?_) fun _=>ih j i2 g2 e cs (by omega) p2 ht (by omega)
   refine(hC b i2 g2 s hb p2 hs).bind fun c i3 g3 p3 q3=>?_
   refine B6g (by simp[room];omega) (ih j i3 g3 e _ (by omega) p3 ?_ (by simp;omega))
   refine⟨ht.1,by simp,by simp;omega,ht.2.2.2.1,fun x hx=>?_,ht.2.2.2.2.2⟩
   rcases zY.mp hx with hx|hx
   ·exact ht.2.2.2.2.1 x hx
   ·rw[zF1.mp hx];exact q3
 refine loop m n i1 g1 E0 _ (by omega) p1 ⟨hw,by simp,by simp,by simp,fun c hc=>?_,fun k hk=>?_⟩ (by simp;omega)
 ·rw[zF1.mp hc];exact⟨by decide,Nat.zero_le _⟩
 ·rw[zF1.mp hk];decide
theorem in0 {m:Nat}(h:1≤m):inR (0:Int) m=true:=D5 (k:=0) h
theorem C2y {m:Nat}{nm:ByteArray}{cs:B2f}{ks:B2a}{k:Nat}{c:B67}(h:B2u m (nm,(cs,ks)))(hc:B61 1048576 c):B2u m (nm,(cs.set k c,ks)):=
 ⟨h.1,by have:=h.2.1;simpa using this,by have:=h.2.2.1;simpa using this,h.2.2.2.1,C6u h.2.2.2.2.1 hc,h.2.2.2.2.2⟩
theorem C3d:EV fun n=>∀(b:List Int) (i h:Int),b.length≤1048576→0≤i→B30 b (B2u 8) (B71 n b i h):=(B4f.and (C1d.and (B9l.and C26))).up fun n ⟨hW,hS,hA,hT⟩ b i h hb hi=>by
 have k7:∀(i g:Int) (e1:ByteArray) (e2:B2f) (e3:B2a) (nm:ByteArray) (cs:B2f) (ks:B2a),0≤i→B2u 8 (nm,(cs,ks))→B30 b (B2u 8) (B51 n 1 b i g e1 e2 e3 nm cs ks):=by
  intro i g e1 e2 e3 nm cs ks hi ht
  simp only[B51]
  exact .mk hi ht
 have k6:∀(k i g:Int) (e1:ByteArray) (e2:B2f) (e3:B2a) (nm:ByteArray) (cs:B2f) (ks:B2a),0≤i→B2u 8 (nm,(cs,ks))→B30 b (B2u 8) (B50 n 1 k b i g e1 e2 e3 nm cs ks):=by
  intro k i g e1 e2 e3 nm cs ks hi ht
  simp only[B50]
  exact B3q (fun _=>B6g (in0 ht.2.1) (k7 _ _ _ _ _ _ _ _ hi (C2y ht (C0g ht.2.2.2.2.1)))) fun _=>k7 _ _ _ _ _ _ _ _ hi ht
 have k5:∀(k i g:Int) (e1:ByteArray) (e2:B2f) (e3:B2a) (nm:ByteArray) (cs:B2f) (ks:B2a),0≤i→B2u 8 (nm,(cs,ks))→B30 b (B2u 8) (B4z n 1 k b i g e1 e2 e3 nm cs ks):=by
  intro k i g e1 e2 e3 nm cs ks hi ht
  simp only[B4z]
  exact B3q (fun _=>k6 _ _ _ _ _ _ _ _ _ hi ⟨ht.1,ht.2.1,ht.2.2.1,Nat.zero_le _,ht.2.2.2.2.1,fun k hk=>by cases hk⟩) fun _=>k6 _ _ _ _ _ _ _ _ _ hi ht
 have k4:∀(k c i g:Int) (e1:ByteArray) (e2:B2f) (e3:B2a) (nm:ByteArray) (cs:B2f) (ks:B2a),0≤i→inR c cs.length=true→B2u 7 (nm,(cs,ks))→B30 b (B2u 8) (B4y n 1 k c b i g e1 e2 e3 nm cs ks):=by
  intro k c i g e1 e2 e3 nm cs ks hi hc ht
  simp only[B4y]
  have hl:=ht.2.2.1
  simp only at hl
  refine B3q (fun _=>B6g hc (B6g (by simp[room];omega) (k5 _ _ _ _ _ _ _ _ _ hi ⟨ht.1,by simp,by simp;omega,Nat.le_trans ht.2.2.2.1 (by decide),fun x hx=>?_,ht.2.2.2.2.2⟩))) fun _=>k5 _ _ _ _ _ _ _ _ _ hi (ht.mono (by decide))
  rcases zY.mp hx with hx|hx
  ·exact ht.2.2.2.2.1 x hx
  ·rw[zF1.mp hx];exact C0g (l:=cs) ht.2.2.2.2.1
 have k3:∀(k c i g:Int) (e1:ByteArray) (e2:B2f) (e3:B2a) (nm:ByteArray) (cs:B2f) (ks:B2a),0≤i→inR c cs.length=true→B2u 6 (nm,(cs,ks))→B30 b (B2u 8) (B4x n 1 k c b i g e1 e2 e3 nm cs ks):=by
  intro k c i g e1 e2 e3 nm cs ks hi hc ht
  simp only[B4x]
  have hl:=ht.2.2.2.1
  simp only at hl
  refine B3q (fun _=>?_) fun _=>k4 _ _ _ _ _ _ _ _ _ _ hi hc (ht.mono (by decide))
  refine(hS b i g hb hi).bind fun s i2 g2 p2 q2=>?_
  refine B6g (by simp[room];omega) (k4 _ _ _ _ _ _ _ _ _ _ p2 hc ⟨ht.1,ht.2.1,Nat.le_trans ht.2.2.1 (by decide),by simp;omega,ht.2.2.2.2.1,fun x hx=>?_⟩)
  rcases zY.mp hx with hx|hx
  ·exact ht.2.2.2.2.2 x hx
  ·rw[zF1.mp hx];exact Nat.le_trans q2 (by decide)
 have k2:∀(k c i g:Int) (e1:ByteArray) (e2:B2f) (e3:B2a) (nm:ByteArray) (cs:B2f) (ks:B2a),0≤i→inR c cs.length=true→B2u 6 (nm,(cs,ks))→B30 b (B2u 8) (B4w n 1 k c b i g e1 e2 e3 nm cs ks):=by
  intro k c i g e1 e2 e3 nm cs ks hi hc ht
  simp only[B4w]
  refine B3q (fun _=>?_) fun _=>k3 _ _ _ _ _ _ _ _ _ _ hi hc ht
  refine(hA b i g hb hi).bind fun v i2 g2 p2 q2=>?_
  exact B6g hc (k3 _ _ _ _ _ _ _ _ _ _ p2 (by rw[List.length_set];exact hc) (C2y ht ⟨(C0g (l:=cs) ht.2.2.2.2.1).1,Nat.le_trans q2 (by decide)⟩))
 have k1:∀(k c i g:Int) (e1:ByteArray) (e2:B2f) (e3:B2a) (nm:ByteArray) (cs:B2f) (ks:B2a),0≤i→inR c cs.length=true→B2u 6 (nm,(cs,ks))→B30 b (B2u 8) (B4v n 1 k c b i g e1 e2 e3 nm cs ks):=by
  intro k c i g e1 e2 e3 nm cs ks hi hc ht
  simp only[B4v]
  refine B3q (fun _=>?_) fun _=>k2 _ _ _ _ _ _ _ _ _ _ hi hc ht
  refine(hW b i g 6 hb hi (by omega)).bind fun v i2 g2 p2 q2=>?_
  exact B6g hc (k2 _ _ _ _ _ _ _ _ _ _ p2 (by rw[List.length_set];exact hc) (C2y ht (C0g (l:=cs) ht.2.2.2.2.1)))
 simp only[B71]
 refine(hT b i h _ hb hi (by decide)).bind fun t i1 g1 p1 q1=>?_
 have hl1:=q1.2.1
 have hl5:=q1.2.2.1
 refine(hW b i1 g1 14 hb p1 (by omega)).bind fun x i2 g2 p2 q2=>?_
 refine(hW b i2 g2 (t.2.1.length:Int) hb p2 (by omega)).bind fun y i3 g3 p3 q3=>?_
 have hy:=C0f (show 0<t.2.1.length by omega) rfl q3
 refine B3q (fun _=>?_) fun _=>k1 _ _ _ _ _ _ _ _ _ _ p3 hy (q1.mono (by decide))
 refine(hW b i3 g3 3 hb p3 (by omega)).bind fun z i4 g4 p4 q4=>?_
 refine B6g (C0f (m:=3) (by decide) (by decide) q4) (k1 _ _ _ _ _ _ _ _ _ _ p4 hy ?_)
 have:=q1.mono (n:=6) (by decide)
 exact⟨C28 (by decide),this.2⟩
def C7u (k:Nat)(l:C1v):Prop:=l.length≤k∧∀x∈l,B2u 8 x
theorem room_le {m n k:Nat}(h:m≤n)(hn:n*k≤140737488355328)(hk:n≤140737488355328):room m k=true:=by
 simp only[room,zG]
 exact⟨Nat.le_trans (Nat.mul_le_mul_right k h) hn,Nat.le_trans h hk⟩
theorem C25:EV fun n=>∀(b:List Int) (i h:Int) (t:D3),b.length≤1048576→0≤i→t.2.1.length≤20→B30 b (fun r:B26=>r.length=t.2.1.length∧∀v∈r,B62 1048576 v) (B5x n b i h t.1 t.2.1 t.2.2):=(C18.and (EV.gt 30)).up fun n ⟨hO,hn⟩ b i h t hb hi ht=>by
 obtain⟨nm,cs,ks⟩:=t
 simp only at ht⊢
 have loop:∀(m j k:Nat) (i g:Int) (e r:B26),k+m=cs.length→m<j→0≤i→r.length=k→(∀v∈r,B62 1048576 v)→B30 b (fun r:B26=>r.length=cs.length∧∀v∈r,B62 1048576 v) (B2q n j cs (cs.length:Int) (k:Int) b i g e r):=by
  intro m
  induction m with
  |zero=>
   intro j k i g e r hk hj hi hr hv
   obtain⟨j,rfl⟩:∃j',j=j'+1:=⟨j - 1,by omega⟩
   have e0:decide ((k:Int)<(cs.length:Int))=false:=zK (by omega)
   simp only[B2q,e0,zA]
   exact .mk hi ⟨by omega,hv⟩
  |succ m ih=>
   intro j k i g e r hk hj hi hr hv
   obtain⟨j,rfl⟩:∃j',j=j'+1:=⟨j - 1,by omega⟩
   have e0:decide ((k:Int)<(cs.length:Int))=true:=zD (by omega)
   have hk1:k<cs.length:=by omega
   simp only[B2q,e0,zB,D5 hk1,V1 hk1 (by omega)]
   refine(hO b i g _ hb hi).bind fun v i2 g2 p2 q2=>?_
   have hv2:B62 1048576 v:=Nat.le_trans q2 (by decide)
   have inner:∀(q j2 x:Nat) (i g:Int) (c:B67) (v:B41),x+q=9→q<j2→0≤i→B62 1048576 v→
     B30 b (fun r:B26=>r.length=cs.length∧∀v∈r,B62 1048576 v) (B3t n (fun y40 y41 y42 y43 y44 y45 y46 y47=>B2q n j y40 y41 y42 y43 y44 y45 y46 y47) j2 (x:Int) cs (cs.length:Int) (k:Int) b i g e r c.1 c.2.1 c.2.2.1 c.2.2.2.1 c.2.2.2.2.1 c.2.2.2.2.2.1 c.2.2.2.2.2.2 v.1 v.2.1 v.2.2):=by
    intro q
    have fin:∀(i g:Int) (v:B41),0≤i→B62 1048576 v→B30 b (fun r:B26=>r.length=cs.length∧∀v∈r,B62 1048576 v) (B2q n j cs (cs.length:Int) ((k+1:Nat):Int) b i g e (r++[v])):=by
     intro i g v hi hsv
     refine ih j (k+1) i g e _ (by omega) (by omega) hi (by simp;omega) fun x hx=>?_
     rcases zY.mp hx with hx|hx
     ·exact hv x hx
     ·rw[zF1.mp hx];exact hsv
    have hroom:∀v:B41,room (r.length+[v].length) 32=true:=fun v=>room_le (n:=40) (by simp;omega) (by decide) (by decide)
    induction q with
    |zero=>
     intro j2 x i g c v hx hj2 hi hsv
     obtain⟨j2,rfl⟩:∃j',j2=j'+1:=⟨j2 - 1,by omega⟩
     have e0:decide ((x:Int)<(9:Int))=false:=zK (by omega)
     simp only[B3t,e0,zA,V1 hk1 (by omega)]
     exact B6g (hroom _) (fin i g v hi hsv)
    |succ q ih2=>
     intro j2 x i g c v hx hj2 hi hsv
     obtain⟨j2,rfl⟩:∃j',j2=j'+1:=⟨j2 - 1,by omega⟩
     have e0:decide ((x:Int)<(9:Int))=true:=zD (by omega)
     simp only[B3t,e0,zB,V1 hk1 (by omega),V1 (show x<9 by omega) (by omega)]
     refine B3q (fun _=>B3q (fun _=>?_) fun _=>B6g (hroom _) (fin i g v hi hsv)) fun _=>B6g (hroom _) (fin i g v hi hsv)
     refine(hO b i g _ hb hi).bind fun v2 i2 g2 p2 q2=>?_
     exact ih2 j2 (x+1) i2 g2 c v2 (by omega) (by omega) p2 (Nat.le_trans q2 (by decide))
   exact inner 9 n 0 i2 g2 (cs.getD k CZ) v (by omega) (by omega) p2 hv2
 simp only[B5x]
 exact loop cs.length n 0 i h [] [] (by omega) (by omega) hi rfl (fun v hv=>by cases hv)
theorem C23 {x:D3}{l:R2}{r:B3h}(_:B2h 1048576 x)(hl:B3w 1048576 l)(hr:B5i 1048576 r):B3w 1048576 (B2z x l r).1:=by
 unfold B2z
 split
 ·rename_i h
  have h60:=(B5e h).2.1
  split
  ·split
   ·exact B8p
   ·split
    ·exact B8p
    ·refine⟨by rw[C2e];omega,fun y hy=>?_⟩
     rcases C2f hy with e|e
     ·exact hl.2 y e
     ·rw[e];exact hr
  ·exact B8p
 ·exact B8p
theorem C55:EV fun n=>∀(b:List Int) (i h:Int) (t:D3),b.length≤1048576→0≤i→t.2.1.length≤20→B2h 1048576 t→1≤t.2.1.length→B30 b (fun l:R2=>B3w 1048576 l∧l.length≤60∧∀r∈l,1≤r.length) (B6l n b i h t.1 t.2.1 t.2.2):=(B4f.and (C25.and (B8l.and (EV.gt 10)))).up fun n ⟨hW,hR,hP,hn⟩ b i h t hb hi ht hs h1=>by
 have loop:∀(m j:Nat) (i g:Int) (l:R2),m<j→m≤10→0≤i→(B3w 1048576 l∧l.length≤60∧∀r∈l,1≤r.length)→B30 b (fun l:R2=>B3w 1048576 l∧l.length≤60∧∀r∈l,1≤r.length) (B3c n j (m:Int) b i g t.1 t.2.1 t.2.2 l):=by
  intro m
  induction m with
  |zero=>
   intro j i g l hj h10 hi hl
   obtain⟨j,rfl⟩:∃j',j=j'+1:=⟨j - 1,by omega⟩
   have e0:decide ((0:Int)<((0:Nat):Int))=false:=rfl
   simp only[B3c,e0,zA]
   exact .mk hi hl
  |succ m ih=>
   intro j i g l hj h10 hi hl
   obtain⟨j,rfl⟩:∃j',j=j'+1:=⟨j - 1,by omega⟩
   have e0:decide ((0:Int)<((m+1:Nat):Int))=true:=zD (by omega)
   have w1:IntKind.wrap .i64 (((m+1:Nat):Int) - (1:Int))=(m:Int):=by rw[wrap64]<;>omega
   simp only[B3c,e0,zB,w1]
   refine(hR b i g t hb hi ht).bind fun r i2 g2 p2 q2=>?_
   have hr:B5i 1048576 r:=⟨by omega,q2.2⟩
   simp only[hP t l r hs hl.1 hr.1,zC,B35]
   refine B3q (fun hz=>ih j i2 g2 _ (by omega) (by omega) p2 ⟨C23 hs hl.1 hr,?_⟩) fun _=>ih j i2 g2 _ (by omega) (by omega) p2 hl
   unfold B2z
   split
   ·split
    ·split
     ·exact⟨Nat.zero_le _,fun r hr=>by cases hr⟩
     ·split
      ·exact⟨Nat.zero_le _,fun r hr=>by cases hr⟩
      ·have hlen:(B33 t l r).length=l.length+1:=by
        have:=congrArg List.length (List.takeWhile_append_dropWhile (p:=B58 t r) (l:=l))
        simp only[B33,List.length_append,zW,zX]at this⊢
        omega
       refine⟨by have:=hl.2.1;simp only[hlen];omega,fun x hx=>?_⟩
       simp only[B33,zY,zF1]at hx
       rcases hx with(hx|hx)|hx
       ·exact hl.2.2 x ((List.takeWhile_sublist _).subset hx)
       ·rw[hx];omega
       ·exact hl.2.2 x ((List.dropWhile_sublist _).subset hx)
    ·exact⟨Nat.zero_le _,fun r hr=>by cases hr⟩
   ·exact⟨Nat.zero_le _,fun r hr=>by cases hr⟩
 simp only[B6l]
 refine(hW b i h 7 hb hi (by omega)).bind fun x i1 g1 p1 q1=>?_
 have q1:=q1.1 (by omega)
 obtain⟨m,rfl⟩:=Int.eq_ofNat_of_zero_le q1.1
 exact loop m n i1 g1 [] (by omega) (by omega) p1 ⟨B8p,Nat.zero_le _,fun r hr=>by cases hr⟩
def B6m {α β:Type}(b:List Int)(P:α→β→Prop)(r:Option (α×(β×(((List Int)×(Int×Int))×Unit)))):Prop:=∃x y i h,r=some (x,(y,((b,(i,h)),())))∧0≤i∧P x y
theorem B6m.mk {α β:Type}{b:List Int}{P:α→β→Prop}{x:α}{y:β}{i g:Int}(hi:0≤i)(hp:P x y):B6m b P (some (x,(y,((b,(i,g)),())))):=⟨x,y,i,g,rfl,hi,hp⟩
theorem B6m.bind {α β γ:Type}{b:List Int}{P:α→β→Prop}{Q:Option γ→Prop}{r:Option (α×(β×(((List Int)×(Int×Int))×Unit)))}{f:α×(β×(((List Int)×(Int×Int))×Unit))→Option γ}
  (h:B6m b P r) (hf:∀x y i g,0≤i→P x y→Q (f (x,(y,((b,(i,g)),()))))):Q (r.bind f):=by
 obtain⟨x,y,i,g,rfl,hi,px⟩:=h
 exact hf x y i g hi px
def B4t (m:Nat)(l:R2):Prop:=B3w 1048576 l∧l.length≤m∧∀r∈l,1≤r.length
theorem B4t.mono {m n:Nat}{l:R2}(h:B4t m l)(hm:m≤n):B4t n l:=⟨h.1,Nat.le_trans h.2.1 hm,h.2.2⟩
theorem B4t.set {m k:Nat}{l:R2}{r:B3h}(h:B4t m l)(hr:B5i 1048576 r)(h1:1≤r.length):B4t m (l.set k r):=
 ⟨⟨by rw[List.length_set];exact h.1.1,fun x hx=>by
   rcases List.mem_or_eq_of_mem_set hx with e|e
   ·exact h.1.2 x e
   ·rw[e];exact hr⟩,by rw[List.length_set];exact h.2.1,fun x hx=>by
   rcases List.mem_or_eq_of_mem_set hx with e|e
   ·exact h.2.2 x e
   ·rw[e];exact h1⟩
theorem B4t.add {m:Nat}{l:R2}{r:B3h}(h:B4t m l)(hm:m<1048576)(hr:B5i 1048576 r)(h1:1≤r.length):B4t (m+1) (l++[r]):=by
 have hl:=h.2.1
 refine⟨⟨by simp;omega,fun x hx=>?_⟩,by simp;omega,fun x hx=>?_⟩
 ·rcases zY.mp hx with hx|hx
  ·exact h.1.2 x hx
  ·rw[zF1.mp hx];exact hr
 ·rcases zY.mp hx with hx|hx
  ·exact h.2.2 x hx
  ·rw[zF1.mp hx];exact h1
theorem C5p {r:B3h}{k:Nat}{v:B41}(h:B5i 1048576 r)(hv:B62 1048576 v):B5i 1048576 (r.set k v):=
 ⟨by rw[List.length_set];exact h.1,fun x hx=>by
  rcases List.mem_or_eq_of_mem_set hx with e|e
  ·exact h.2 x e
  ·rw[e];exact hv⟩
theorem C24:EV fun n=>∀(b:List Int) (i h:Int),b.length≤1048576→0≤i→B6m b (fun t l=>B2u 8 t∧B4t 70 l) (B73 n b i h):=(B4f.and (B9l.and (C26.and (C3d.and (C55.and (EV.gt 100)))))).up fun n ⟨hW,hV,hT,hA,hR,hn⟩ b i h hb hi=>by
 have k6:∀(i g:Int) (e1:ByteArray) (e2:B2f) (e3:B2a) (t:D3) (l:R2),0≤i→B2u 8 t→B4t 70 l→B6m b (fun t l=>B2u 8 t∧B4t 70 l) (B4a n 1 b i g e1 e2 e3 t.1 t.2.1 t.2.2 l):=by
  intro i g e1 e2 e3 t l hi ht hl
  simp only[B4a]
  exact .mk hi ⟨ht,hl⟩
 have loop:∀(m j k:Nat) (i g:Int) (e1:ByteArray) (e2:B2f) (e3:B2a) (t:D3) (l:R2),k+m=65→m<j→0≤i→B2u 8 t→B4t k l→B6m b (fun t l=>B2u 8 t∧B4t 70 l) (B4b n j (k:Int) b i g e1 e2 e3 t.1 t.2.1 t.2.2 l):=by
  intro m
  induction m with
  |zero=>
   intro j k i g e1 e2 e3 t l hk hj hi ht hl
   obtain⟨j,rfl⟩:∃j',j=j'+1:=⟨j - 1,by omega⟩
   simp only[B4b]
   refine(hW b i g 3 hb hi (by omega)).bind fun x i2 g2 p2 q2=>?_
   have q2:=q2.1 (by omega)
   have w1:IntKind.wrap .i64 ((59:Int)+x)=59+x:=by rw[wrap64]<;>omega
   have e0:decide ((k:Int)<59+x)=false:=zK (by omega)
   simp only[w1,e0,zA]
   exact k6 _ _ _ _ _ _ _ p2 ht (hl.mono (by omega))
  |succ m ih=>
   intro j k i g e1 e2 e3 t l hk hj hi ht hl
   obtain⟨j,rfl⟩:∃j',j=j'+1:=⟨j - 1,by omega⟩
   simp only[B4b]
   refine(hW b i g 3 hb hi (by omega)).bind fun x i2 g2 p2 q2=>?_
   refine B3q (fun _=>?_) fun _=>k6 _ _ _ _ _ _ _ p2 ht (hl.mono (by omega))
   have hl2:=hl.2.1
   rw[V1 (show k<65 by omega) (by omega)]
   exact B6g (room_le (n:=100) (by simp;omega) (by decide) (by decide)) (ih j (k+1) i2 g2 e1 e2 e3 t _ (by omega) (by omega) p2 ht (hl.add (by omega) ⟨by simp,fun v hv=>by rw[zF1.mp hv];exact Nat.zero_le _⟩ (by simp)))
 have k4:∀(k i g:Int) (e1:ByteArray) (e2:B2f) (e3:B2a) (t:D3) (l:R2),0≤i→B2u 8 t→B4t 61 l→B6m b (fun t l=>B2u 8 t∧B4t 70 l) (B49 n 1 k b i g e1 e2 e3 t.1 t.2.1 t.2.2 l):=by
  intro k i g e1 e2 e3 t l hi ht hl
  simp only[B49]
  refine B3q (fun _=>?_) fun _=>k6 _ _ _ _ _ _ _ hi ht (hl.mono (by omega))
  refine(hW b i g 5 hb hi (by omega)).bind fun x i2 g2 p2 q2=>?_
  refine B3q (fun _=>?_) fun _=>k6 _ _ _ _ _ _ _ p2 ht (hl.mono (by omega))
  refine loop 65 n 0 i2 g2 e1 e2 e3 (⟨#[116]⟩,([(⟨#[105,100]⟩,(2,(true,(false,(0,(0,E0))))))],[⟨#[105,100]⟩])) [] (by omega) (by omega) p2 ⟨by decide,by simp,by simp,by simp,fun c hc=>?_,fun k hk=>?_⟩ ⟨B8p,Nat.le_refl _,fun r hr=>by cases hr⟩
  ·rw[zF1.mp hc];exact⟨by decide,Nat.zero_le _⟩
  ·rw[zF1.mp hk];decide
 have k3:∀(k m i g:Int) (e1:ByteArray) (e2:B2f) (e3:B2a) (t:D3) (l:R2),0≤i→B2u 8 t→B4t 60 l→m=(l.length:Int)→B6m b (fun t l=>B2u 8 t∧B4t 70 l) (B48 n 1 k m b i g e1 e2 e3 t.1 t.2.1 t.2.2 l):=by
  intro k m i g e1 e2 e3 t l hi ht hl hm
  subst hm
  have hl2:=hl.2.1
  simp only[B48]
  refine B3q (fun _=>B3q (fun hp=>?_) fun _=>k4 _ _ _ _ _ _ _ _ hi ht (hl.mono (by omega))) fun _=>k4 _ _ _ _ _ _ _ _ hi ht (hl.mono (by omega))
  have hp:=of_decide_eq_true hp
  have w1:IntKind.wrap .i64 ((l.length:Int) - (1:Int))=((l.length - 1:Nat):Int):=by rw[wrap64]<;>omega
  have hlt:l.length - 1<l.length:=by omega
  simp only[w1,zE,getD_at hlt]
  exact B6g (D5 hlt) (B6g (room_le (n:=100) (by simp;omega) (by decide) (by decide)) (k4 _ _ _ _ _ _ _ _ hi ht (hl.add (by omega) (hl.1.2 _ (zL hlt)) (hl.2.2 _ (zL hlt)))))
 have k2:∀(k m i g:Int) (e1:ByteArray) (e2:B2f) (e3:B2a) (t:D3) (l:R2),0≤i→B2u 8 t→B4t 60 l→m=(l.length:Int)→B6m b (fun t l=>B2u 8 t∧B4t 70 l) (B47 n 1 k m b i g e1 e2 e3 t.1 t.2.1 t.2.2 l):=by
  intro k m i g e1 e2 e3 t l hi ht hl hm
  subst hm
  have hl2:=hl.2.1
  simp only[B47]
  refine B3q (fun _=>B3q (fun hp=>?_) fun _=>k3 _ _ _ _ _ _ _ _ _ hi ht hl rfl) fun _=>k3 _ _ _ _ _ _ _ _ _ hi ht hl rfl
  have hp:=of_decide_eq_true hp
  have w1:IntKind.wrap .i64 ((l.length:Int) - (1:Int))=((l.length - 1:Nat):Int):=by rw[wrap64]<;>omega
  have hlt:l.length - 1<l.length:=by omega
  have hlt0:0<l.length:=by omega
  simp only[w1,zE,show(0:Int).toNat=0 from rfl,getD_at hlt,getD_at hlt0]
  have s0:=hl.1.2 _ (zL hlt0)
  have s1:=hl.1.2 _ (zL hlt)
  have t0:=hl.2.2 _ (zL hlt0)
  have t1:=hl.2.2 _ (zL hlt)
  refine B6g (in0 hlt0) (B6g (D5 hlt) (B6g (in0 hlt0) (B6g (by rw[List.length_set];exact D5 hlt) (k3 _ _ _ _ _ _ _ _ _ hi ht ((hl.set s1 t1).set s0 t0) (by simp)))))
 have k1:∀(k m i g:Int) (e1:ByteArray) (e2:B2f) (e3:B2a) (t:D3) (l:R2),0≤i→B2u 8 t→B4t 60 l→m=(l.length:Int)→B6m b (fun t l=>B2u 8 t∧B4t 70 l) (B52 n 1 k m b i g e1 e2 e3 t.1 t.2.1 t.2.2 l):=by
  intro k m i g e1 e2 e3 t l hi ht hl hm
  subst hm
  simp only[B52]
  refine B3q (fun _=>B3q (fun hp=>?_) fun _=>k2 _ _ _ _ _ _ _ _ _ hi ht hl rfl) fun _=>k2 _ _ _ _ _ _ _ _ _ hi ht hl rfl
  have hp:=of_decide_eq_true hp
  have hlt0:0<l.length:=by omega
  simp only[show(0:Int).toNat=0 from rfl,getD_at hlt0]
  have s0:=hl.1.2 _ (zL hlt0)
  have t0:=hl.2.2 _ (zL hlt0)
  refine B6g (in0 hlt0) ?_
  refine(hV b i g hb hi).bind fun v i2 g2 p2 q2=>?_
  exact B6g (in0 t0) (k2 _ _ _ _ _ _ _ _ _ p2 ht (hl.set (C5p s0 (Nat.le_trans q2 (by decide))) (by rw[List.length_set];exact t0)) (by simp))
 simp only[B73]
 refine(hT b i h _ hb hi (by decide)).bind fun t i1 g1 p1 q1=>?_
 have hc:=q1.2.2.1
 refine(hR b i1 g1 t hb p1 (by omega) (q1.sm (by decide)) q1.2.1).bind fun l i2 g2 p2 q2=>?_
 refine(hW b i2 g2 14 hb p2 (by omega)).bind fun x i3 g3 p3 q3=>?_
 refine B3q (fun _=>?_) fun _=>k1 _ _ _ _ _ _ _ _ _ p3 (q1.mono (by decide)) q2 rfl
 refine(hA b i3 g3 hb p3).bind fun t2 i4 g4 p4 q4=>?_
 exact k1 _ _ _ _ _ _ _ _ _ p4 q4 q2 rfl
theorem C3b:EV fun n=>∀(b:List Int) (i h:Int) (t:D3),b.length≤1048576→0≤i→t.2.1.length≤20→B30 b (B5i 1048576) (B5w n b i h t.1 t.2.1 t.2.2):=(B4f.and (B9l.and C25)).up fun n ⟨hW,hV,hR⟩ b i h t hb hi ht=>by
 have k2:∀(i g:Int) (e r:B26),0≤i→B5i 1048576 r→B30 b (B5i 1048576) (B36 n 1 b i g e r):=by
  intro i g e r hi hr
  simp only[B36]
  exact .mk hi hr
 have k1:∀(k i g:Int) (e r:B26),0≤i→B5i 1048576 r→r.length≤100→B30 b (B5i 1048576) (B3x n 1 k b i g e r):=by
  intro k i g e r hi hr hl
  simp only[B3x]
  refine B3q (fun _=>B3q (fun hp=>?_) fun _=>k2 _ _ _ _ hi hr) fun _=>k2 _ _ _ _ hi hr
  have hp:=of_decide_eq_true hp
  refine(hW b i g (r.length:Int) hb hi (by omega)).bind fun x i2 g2 p2 q2=>?_
  refine(hV b i2 g2 hb p2).bind fun v i3 g3 p3 q3=>?_
  exact B6g (C0f (show 0<r.length by omega) rfl q2) (k2 _ _ _ _ p3 (C5p hr (Nat.le_trans q3 (by decide))))
 simp only[B5w]
 refine(hR b i h t hb hi ht).bind fun r i1 g1 p1 q1=>?_
 have hrl:r.length≤20:=by rw[q1.1];exact ht
 have hr:B5i 1048576 r:=⟨by omega,q1.2⟩
 refine(hW b i1 g1 12 hb p1 (by omega)).bind fun x i2 g2 p2 q2=>?_
 refine B3q (fun _=>?_) fun _=>k1 _ _ _ _ _ p2 hr (Nat.le_trans hrl (by decide))
 refine B6g (room_le (n:=100) (by simp;omega) (by decide) (by decide)) (k1 _ _ _ _ _ p2 ⟨by simp;omega,fun v hv=>?_⟩ (by simp;omega))
 rcases zY.mp hv with hv|hv
 ·exact hr.2 v hv
 ·rw[zF1.mp hv];exact Nat.zero_le _
theorem C3c:EV fun n=>∀b:List Int,b.length≤1048576→∃(t:D3) (l:R2) (r:B3h),B5f n b=some (t,(l,(r,())))∧B2h 1048576 t∧B3w 1048576 l∧B5i 1048576 r:=(C7b.and (C24.and C3b)).up fun n ⟨hN,hA,hR⟩ b hb=>by
 obtain⟨h,e0⟩:=hN b hb
 obtain⟨t,l,i1,g1,e1,p1,q1,q2⟩:=hA b 0 h hb (by omega)
 have hc:=q1.2.2.1
 obtain⟨r,i2,g2,e2,p2,q3⟩:=hR b i1 g1 t hb p1 (by omega)
 simp only[B5f,e0,e1,e2,zC]
 exact⟨_,_,_,rfl,q1.sm (by decide),q2.1,q3⟩
theorem C6a {x:D3}{r:B3h}(h:B2d x=true)(hr:B2t x.2.1 r=true):C17 x (D0 x.2.1 x.2.2 r)=true:=by
 obtain⟨h1,h2⟩:=C5x.mp hr
 simp only[C17,h,B2v,zI,zG1]
 refine(B31 _ _ _).mpr fun i hi=>?_
 obtain⟨p,e1,hp,_⟩:=C5t h (zL hi)
 have hpr:p<r.length:=by omega
 rw[zS,e1,zE,getD_at hp,getD_at (by rw[B2v];exact hi)]
 simp only[D0,List.getElem_map,e1,zE,getD_at hpr]
 exact h2 p hp hpr
theorem C49 {α:Type}{p:α→Bool}:∀(l m:List α) (x:α) (k:Nat),(∀y∈l,p y=false)→p x=true→idxFrom p (l++x::m) k=((k+l.length:Nat):Int)
 |[],m,x,k,_,hx=>by simp[idxFrom,hx]
 |y::l,m,x,k,h,hx=>by
  simp only[List.cons_append,idxFrom,h y (zM ..),if_neg (show¬(false=true)by decide),zW]
  rw[C49 l m x (k+1) (fun z hz=>h z (zF _ hz)) hx]
  omega
theorem C5w {x:D3}{l:R2}{r:B3h}(hz:(B2z x l r).2.1=0):B2p x l=true∧B2t x.2.1 r=true∧B2p x (B2z x l r).1=true∧
  ∃k:Nat,B7o x (B2z x l r).1 (D0 x.2.1 x.2.2 r)=(k:Int)∧C1t (B2z x l r).1 k=l:=by
 unfold B2z at hz⊢
 by_cases h1:B2p x l=true
 rotate_left
 ·rw[if_neg h1]at hz;cases hz
 rw[if_pos h1]at hz⊢
 by_cases h2:B2t x.2.1 r=true
 rotate_left
 ·rw[if_neg h2]at hz;cases hz
 rw[if_pos h2]at hz⊢
 by_cases h3:0≤B7o x l (D0 x.2.1 x.2.2 r)
 ·rw[if_pos h3]at hz;cases hz
 rw[if_neg h3]at hz⊢
 by_cases h4:l.length=60
 ·rw[if_pos h4]at hz;cases hz
 rw[if_neg h4]
 obtain⟨ht,h60,_⟩:=B5e h1
 have hne:=C5n h3
 refine⟨h1,h2,C5v h1 (by omega) h2 hne,(l.takeWhile (B58 x r)).length,?_,?_⟩
 ·show idxFrom _ (B33 x l r) 0=_
  unfold B33
  rw[List.append_assoc]
  rw[List.singleton_append,C49 _ _ _ _ (fun y hy=>?_) (by simp)]
  ·simp
  ·exact zK (hne y ((List.takeWhile_sublist _).subset hy))
 ·unfold B33 C1t
  simp only[List.append_assoc,List.singleton_append]
  rw[List.take_left,←List.drop_drop,List.drop_left]
  simp
def C6f (m:Nat)(d:B8f):Prop:=d.2.1.size≤1048576∧d.2.2.1.length≤m∧(∀c∈d.2.2.1,B61 1048576 c)∧d.2.2.2.1.length≤m∧(∀k∈d.2.2.2.1,k.size≤1048576)∧d.2.2.2.2.1.size≤1048576∧d.2.2.2.2.2.size≤1048576
theorem C6f.sm {m:Nat}{d:B8f}(h:C6f m d)(hm:m≤1048576):C6c 1048576 d:=⟨h.1,⟨Nat.le_trans h.2.1 hm,h.2.2.1⟩,⟨Nat.le_trans h.2.2.2.1 hm,h.2.2.2.2.1⟩,h.2.2.2.2.2.1,h.2.2.2.2.2.2⟩
def C6g (m k:Nat)(d:C6i):Prop:=C7u m d.1∧d.2.length≤k∧∀l∈d.2,B4t 60 l
theorem C6g.sm {m k:Nat}{d:C6i}(h:C6g m k d)(hm:m≤1048576)(hk:k≤1048576):C7s 1048576 d:=
 ⟨⟨Nat.le_trans h.1.1 hm,fun t ht=>(h.1.2 t ht).sm (by decide)⟩,⟨Nat.le_trans h.2.1 hk,fun l hl=>(h.2.2 l hl).1⟩⟩
def C74 (m:Nat)(l:B26):Prop:=l.length≤m∧∀v∈l,B62 1048576 v
def C73 (m:Nat)(s:C1u):Prop:=s.2.1.size≤1048576∧C74 m s.2.2.1∧C74 m s.2.2.2.1∧C6f 9 s.2.2.2.2
theorem C73.sm {m:Nat}{s:C1u}(h:C73 m s)(hm:m≤1048576):C6w 1048576 s:=⟨h.1,⟨Nat.le_trans h.2.1.1 hm,h.2.1.2⟩,⟨Nat.le_trans h.2.2.1.1 hm,h.2.2.1.2⟩,h.2.2.2.sm (by decide)⟩
theorem C7a:EV fun n=>∀(x0:C4d),C5b 140737488355328 x0→B8k n x0=some true:=(C3c.and (C2a.and (B8l.and (C3f.and (C3h.and (C29.and (C1b.and B5q))))))).up fun n ⟨hD,hP,hS,hK,hA,hO,hE,hR⟩ x0 _=>by
 rw[B8k]
 by_cases hb:x0.length≤1048576
 ·have e0:decide ((1048576:Int)<(x0.length:Int))=false:=zK (by omega)
  obtain⟨t,l,r,e,st,sl,sr⟩:=hD x0 hb
  simp only[e0,zA,e,zC,hP t l r st sl sr.1,hS t l r st sl sr.1,B6j,zI,zT]
  by_cases hz:(B2z t l r).2.1=0
  ·obtain⟨h1,h2,h3,k,h4,h5⟩:=C5w hz
   have sm:=C23 st sl sr
   obtain⟨ht,_,_⟩:=B5e h1
   have hk:C6k t r=D0 t.2.1 t.2.2 r:=by unfold C6k;rw[ht,h2];rfl
   have hat:B9k t (B2z t l r).1 (D0 t.2.1 t.2.2 r)=(k:Int):=by unfold B9k;rw[if_pos h3];exact h4
   have hout:C1r t (B2z t l r).1 (D0 t.2.1 t.2.2 r)=(l,(0,())):=by
    unfold C1r
    have h4':idx (fun q=>decide (D0 t.2.1 t.2.2 q=D0 t.2.1 t.2.2 r)) (B2z t l r).1=(k:Int):=h4
    rw[if_pos h3,h4',if_pos ⟨C6a ht h2,by omega⟩,zE,h5]
   have hagain:B2z t (B2z t l r).1 r=([],(3,())):=by
    have:∀m:R2,B2p t m=true→0≤B7o t m (D0 t.2.1 t.2.2 r)→B2z t m r=([],(3,())):=by
     intro m a b
     unfold B2z
     rw[if_pos a,if_pos h2,if_pos b]
    exact this _ h3 (by rw[h4];omega)
   simp only[hz,zI,zT,zA,hK t r st,hk,hA t _ _ st sm.1,hat,hO t _ _ st sm,hout,hP t _ r st sm sr.1,hagain,hE _ _ sl,hR t _ st sm.1,h3,zC,B35]
   have:decide ((0:Int)≤(k:Int))=true:=zD (by omega)
   simp only[this,zI,zB]
  ·have hnil:(B2z t l r).1=[]:=by
    unfold B2z at hz⊢
    repeat' split
    all_goals first|rfl|(simp_all;done)
   simp only[hz,zH,zU,zB,hnil];rfl
 ·have e0:decide ((1048576:Int)<(x0.length:Int))=true:=zD (by omega)
  simp only[e0,zB]

end Go.Proofs.Ytalmhjlcjcnidaa.Ev

/- Words for the plain laws: what holds from some fuel on; steps of loops over lists; texts as lists of bytes. -/
import Derived.Test.YtalmhjlcjcnidaaEvFnFnDdl
import Derived.Test.YtalmhjlcjcnidaaEvLaw
set_option linter.all false
namespace Go.Proofs.Ytalmhjlcjcnidaa.Ev
open Go
set_option linter.unusedVariables false
def EV (p:Nat→Prop):Prop:=∃N,∀n,N≤n→p n
theorem EV.and {p q:Nat→Prop}(h1:EV p)(h2:EV q):EV fun n=>p n∧q n:=by
 obtain⟨N,h1⟩:=h1;obtain⟨M,h2⟩:=h2
 exact⟨max N M,fun n hn=>⟨h1 n (by omega),h2 n (by omega)⟩⟩
theorem EV.mono {p q:Nat→Prop}(h:EV p)(hpq:∀n,p n→q n):EV q:=by
 obtain⟨N,h⟩:=h;exact⟨N,fun n hn=>hpq n (h n hn)⟩
theorem EV.gt (k:Nat):EV fun n=>k<n:=⟨k+1,fun n hn=>hn⟩
theorem EV.true:EV fun _=>True:=⟨0,fun _ _=>trivial⟩
theorem EV.up {p q:Nat→Prop}(h:EV p)(hpq:∀n,p n→q (n+1)):EV q:=by
 obtain⟨N,h⟩:=h
 refine⟨N+1,fun n hn=>?_⟩
 obtain⟨m,rfl⟩:∃m,n=m+1:=⟨n - 1,by omega⟩
 exact hpq m (h m (by omega))
theorem EV.all {α:Type}{p:α→Nat→Prop}:∀{l:List α},(∀x∈l,EV (p x))→EV fun n=>∀x∈l,p x n
 |[],_=>⟨0,by simp⟩
 |a::l,h=>((h a (zM ..)).and (EV.all fun x hx=>h x (zF _ hx))).mono fun n hn x hx=>by
   rcases List.mem_cons.mp hx with rfl|hx
   ·exact hn.1
   ·exact hn.2 x hx
theorem wrap64 {x:Int}(h1: -9223372036854775808≤x)(h2:x≤9223372036854775807):IntKind.wrap .i64 x=x:=by
 have e:IntKind.wrap .i64 x=(if x % 18446744073709551616≥9223372036854775808 then x % 18446744073709551616 - 18446744073709551616 else x % 18446744073709551616):=by
  simp[IntKind.wrap,IntKind.bits,IntKind.signed]
 rw[e];split<;>omega
theorem D28 {k n:Nat}:inR (k:Int) n=decide (k<n):=by simp[inR]
theorem D4 {k n:Nat}(h:k<n):inR (k:Int) n=true:=by simp[D28,h]
theorem R2 {k n:Nat}(h:k<n)(hn:n<4611686018427387904):IntKind.wrap .i64 ((k:Int)+(1:Int))=((k+1:Nat):Int):=by
 rw[wrap64]<;>omega
theorem D3 {k n:Nat}:(decide ((k:Int)<(n:Int)))=decide (k<n):=by simp
theorem getD_at {α:Type}{l:List α}{k:Nat}{z:α}(h:k<l.length):l.getD k z=l[k]:=by simp[List.getD,h]
theorem B2r (a b:Int):(a==b)=decide (a=b):=by by_cases h:a=b<;>simp[h]
theorem B6q (a b:Int):(a !=b)= !decide (a=b):=by by_cases h:a=b<;>simp[bne,h]
theorem C00 (s:ByteArray):s.data.toList.length=s.size:=by rw[zI1];rfl
theorem toList_data (s:ByteArray):s.toList=s.data.toList:=by
 have h:∀(n i:Nat) (r:List UInt8),s.size - i=n→ByteArray.toList.loop s i r=r.reverse++s.data.toList.drop i:=by
  intro n
  induction n with
  |zero=>
   intro i r h
   unfold ByteArray.toList.loop
   rw[if_neg (by omega)]
   have:s.data.toList.length≤i:=by rw[C00];omega
   simp[List.drop_eq_nil_of_le this]
  |succ n ih=>
   intro i r h
   unfold ByteArray.toList.loop
   rw[if_pos (by omega),ih (i+1) _ (by omega)]
   have hi:i<s.data.toList.length:=by rw[C00];omega
   rw[zC1 hi]
   have:s.get! i=s.data.toList[i]:=by
    have hi':i<s.data.size:=by simpa using hi
    rw[ByteArray.get!,Array.getElem!_eq_getD]
    simp only[Array.getD,hi',dite_true]
    rfl
   simp[this]
 simpa[ByteArray.toList]using h s.size 0 [] (by omega)
theorem D0l {a b:ByteArray}(h:a.data.toList=b.data.toList):a=b:=by
 obtain⟨⟨a⟩⟩:=a;obtain⟨⟨b⟩⟩:=b;simpa using h
theorem B3q (a b:ByteArray):(a.toList==b.toList)=decide (a=b):=by
 rw[toList_data,toList_data]
 by_cases h:a=b
 ·subst h;simp
 ·have:¬a.data.toList=b.data.toList:=fun e=>h (D0l e)
  rw[zK h];exact beq_eq_false_iff_ne.mpr this
theorem C7s (a b:ByteArray):(a.toList=b.toList)=(a=b):=by
 rw[toList_data,toList_data]
 exact propext ⟨D0l,fun h=>by rw[h]⟩
theorem B2z {α:Type}{l:List α}{k:Nat}{x:α}{t:List α}(h:l.drop k=x::t)(z:α):k<l.length∧l.getD k z=x∧l.drop (k+1)=t:=by
 have hk:k<l.length:=by
  rcases zE1 k l.length with h'|h'
  ·exact h'
  ·rw[List.drop_eq_nil_of_le h']at h;cases h
 rw[zC1 hk]at h
 obtain⟨h1,h2⟩:=List.cons.inj h
 exact⟨hk,by simp[List.getD,hk,h1],h2⟩
theorem along {α S T:Type}(l:List α)(L:Nat→Nat→S→T)(G:List α→S→T)(hnil:∀j s,L (j+1) l.length s=G [] s)
  (hcons:∀j k x t s,l.drop k=x::t→k<l.length→(∀s,L j (k+1) s=G t s)→L (j+1) k s=G (x::t) s):
  ∀(t:List α) (j k:Nat) (s:S),l.drop k=t→k≤l.length→t.length<j→L j k s=G t s
 |[],j+1,k,s,hd,hk,_=>by
  have:k=l.length:=by
   rcases zE1 k l.length with h'|h'
   ·rw[zC1 h']at hd;cases hd
   ·omega
  subst this;exact hnil j s
 |x::t,j+1,k,s,hd,hk,hj=>by
  have h:=B2z hd x
  exact hcons j k x t s hd h.1 fun s=>along l L G hnil hcons t j (k+1) s h.2.2 (by omega) (by simp at hj;omega)
theorem D2o {α S T:Type}(l:List α)(L:Nat→Nat→S→T)(G:List α→S→T){j:Nat}(hj:l.length<j)(s:S)(hnil:∀j s,L (j+1) l.length s=G [] s)
  (hcons:∀j k x t s,l.drop k=x::t→k<l.length→(∀s,L j (k+1) s=G t s)→L (j+1) k s=G (x::t) s):L j 0 s=G l s:=
 along l L G hnil hcons l j 0 s rfl (by omega) hj
theorem D37 {s:ByteArray}{k:Nat}(h:k<s.size):bt s (k:Int)=((s.data.toList[k]'(by rw[C00];exact h)).toNat:Int):=by
 simp only[bt,zE,h,dite_true];rfl
theorem D25 {s:ByteArray}{k:Nat}{x:UInt8}{t:List UInt8}(h:s.data.toList.drop k=x::t):k<s.size∧bt s (k:Int)=(x.toNat:Int):=by
 obtain⟨h1,h2,_⟩:=B2z h x
 have h3:k<s.size:=by rw[←C00];exact h1
 refine⟨h3,?_⟩
 rw[D37 h3]
 rw[getD_at h1]at h2;rw[h2]
theorem D1s {S T:Type}(s:ByteArray)(L:Nat→Nat→S→T)(G:List UInt8→S→T)(hnil:∀j st,L (j+1) s.size st=G [] st)
  (hcons:∀j k x t st,s.data.toList.drop k=x::t→k<s.size→bt s (k:Int)=(x.toNat:Int)→(∀st,L j (k+1) st=G t st)→L (j+1) k st=G (x::t) st) {j:Nat} (hj:s.size<j) (st:S):L j 0 st=G s.data.toList st:=by
 refine D2o s.data.toList L G (by rw[C00];exact hj) st (fun j st=>by rw[C00];exact hnil j st) fun j k x t st hd hk ih=>?_
 obtain⟨h1,h2⟩:=D25 hd
 exact hcons j k x t st hd h1 h2 ih
theorem C9n {α:Type} [DecidableEq α](x y:α)(R:Option Bool):(bif !decide (x=y)then some false else R)=if x=y then R else some false:=by
 by_cases h:x=y<;>simp[h]
theorem C6d {α:Type} [DecidableEq α](l m:List α)(hlm:l.length=m.length)(L:Nat→Nat→Option Bool)(hexit:∀j,L (j+1) l.length=some true)
  (hstep:∀j k (h:k<l.length) (h':k<m.length),L (j+1) k=if l[k]=m[k]then L j (k+1)else some false):
  ∀(t:List α) (j k:Nat),l.drop k=t→k≤l.length→t.length<j→L j k=some (decide (t=m.drop k))
 |[],j+1,k,hd,hk,_=>by
  have:k=l.length:=by
   rcases zE1 k l.length with h'|h'
   ·rw[zC1 h']at hd;cases hd
   ·omega
  subst this
  rw[hexit,List.drop_eq_nil_of_le (by omega)];simp
 |x::t,j+1,k,hd,hk,hj=>by
  obtain⟨h2,h3,h4⟩:=B2z hd x
  have hx:l[k]=x:=by simpa[List.getD,h2]using h3
  rw[hstep j k h2 (by omega),hx,zC1 (show k<m.length by omega)]
  split
  ·rename_i e
   rw[C6d l m hlm L hexit hstep t j (k+1) h4 (by omega) (by simp at hj;omega)]
   congr 1;exact decide_eq_decide.mpr ⟨fun h=>by rw[e,h],fun h=>(List.cons.inj h).2⟩
  ·rename_i e
   congr 1;exact(zK fun h=>e (List.cons.inj h).1).symm
def idxFrom {α:Type}(p:α→Bool):List α→Nat→Int
 |[],_=> -1
 |x::t,k=>if p x=true then(k:Int)else idxFrom p t (k+1)
def idx {α:Type}(p:α→Bool)(l:List α):Int:=idxFrom p l 0
theorem B74 {α:Type}(p:α→Bool)(l:List α)(L:Nat→Nat→Option Int)(hexit:∀j,L (j+1) l.length=some (-1))
  (hstep:∀j k (h:k<l.length),L (j+1) k=if p l[k]=true then some (k:Int)else L j (k+1)):
  ∀(t:List α) (j k:Nat),l.drop k=t→k≤l.length→t.length<j→L j k=some (idxFrom p t k)
 |[],j+1,k,hd,hk,_=>by
  have:k=l.length:=by
   rcases zE1 k l.length with h'|h'
   ·rw[zC1 h']at hd;cases hd
   ·omega
  subst this;rw[hexit];rfl
 |x::t,j+1,k,hd,hk,hj=>by
  obtain⟨h2,h3,h4⟩:=B2z hd x
  have hx:l[k]=x:=by simpa[List.getD,h2]using h3
  rw[hstep j k h2,hx,B74 p l L hexit hstep t j (k+1) h4 (by omega) (by simp at hj;omega)]
  simp only[idxFrom];split<;>rfl
theorem B8t {b:Bool}{α:Type}(x y:α):(bif !b then y else x)=if b=true then x else y:=by cases b<;>rfl
theorem B7p {b:Bool}{α:Type}(x y:α):(bif b then x else y)=if b=true then x else y:=by cases b<;>rfl
theorem C57 {α:Type}(p:α→Bool):∀(l:List α) (k:Nat),idxFrom p l k= -1∨((k:Int)≤idxFrom p l k∧idxFrom p l k<(k+l.length:Nat))
 |[],k=> .inl rfl
 |x::t,k=>by
  simp only[idxFrom]
  split
  ·right;simp only[zW];omega
  ·rcases C57 p t (k+1)with h|h
   ·exact .inl h
   ·right;simp only[zW];omega
theorem C0b {α:Type}(p:α→Bool)(l:List α): -1≤idx p l∧idx p l<(l.length:Int):=by
 rcases C57 p l 0 with h|h
 ·unfold idx;rw[h];omega
 ·unfold idx;omega
def B32 {α:Type}(p:α→Nat→Bool):List α→Nat→Bool
 |[],_=>true
 |x::t,k=>p x k&&B32 p t (k+1)
theorem B5t {α:Type}(p:α→Nat→Bool)(l:List α)(L:Nat→Nat→Option Bool)(r:Option Bool)(hexit:∀j,L (j+1) l.length=r)
  (hstep:∀j k (h:k<l.length),L (j+1) k=if p l[k] k=true then L j (k+1)else some false):
  ∀(t:List α) (j k:Nat),l.drop k=t→k≤l.length→t.length<j→L j k=if B32 p t k=true then r else some false
 |[],j+1,k,hd,hk,_=>by
  have:k=l.length:=by
   rcases zE1 k l.length with h'|h'
   ·rw[zC1 h']at hd;cases hd
   ·omega
  subst this;rw[hexit];rfl
 |x::t,j+1,k,hd,hk,hj=>by
  obtain⟨h2,h3,h4⟩:=B2z hd x
  have hx:l[k]=x:=by simpa[List.getD,h2]using h3
  rw[hstep j k h2,hx,B5t p l L r hexit hstep t j (k+1) h4 (by omega) (by simp at hj;omega)]
  by_cases hp:p x k=true<;>simp[hp,B32]
def runs {α S:Type}(f:α→S→Option S):List α→S→Option S
 |[],s=>some s
 |x::t,s=>(f x s).bind (runs f t)
def after {S T:Type}(o:Option S)(X:T)(R:S→T):T:=match o with
 |some s=>R s
 |none=>X
theorem C71 {α S T:Type}(l:List α)(f:α→S→Option S)(L:Nat→Nat→S→T)(R:S→T)(X:T)(Inv:S→Prop)(hinv:∀x∈l,∀s s',Inv s→f x s=some s'→Inv s')
  (hexit:∀j s,Inv s→L (j+1) l.length s=R s) (hstep:∀j k s (h:k<l.length),Inv s→L (j+1) k s=after (f l[k] s) X fun s'=>L j (k+1) s'):
  ∀(t:List α) (j k:Nat) (s:S),l.drop k=t→k≤l.length→t.length<j→Inv s→L j k s=after (runs f t s) X R
 |[],j+1,k,s,hd,hk,_,hs=>by
  have:k=l.length:=by
   rcases zE1 k l.length with h'|h'
   ·rw[zC1 h']at hd;cases hd
   ·omega
  subst this;rw[hexit _ _ hs];rfl
 |x::t,j+1,k,s,hd,hk,hj,hs=>by
  obtain⟨h2,h3,h4⟩:=B2z hd x
  have hx:l[k]=x:=by simpa[List.getD,h2]using h3
  rw[hstep j k s h2 hs,hx]
  simp only[runs]
  cases hf:f x s with
  |none=>rfl
  |some s'=>exact C71 l f L R X Inv hinv hexit hstep t j (k+1) s' h4 (by omega) (by simp at hj;omega) (hinv x (by rw[←hx];exact zL h2) s s' hs hf)
theorem B9s {α:Type}(p:α→Nat→Bool)(Q:Nat→Prop)(l:List α)(L:Nat→Nat→Option Bool)(r:Option Bool)(hexit:∀j,L (j+1) l.length=r)
  (hQ:∀k (h:k<l.length),Q k→p l[k] k=true→Q (k+1)) (hstep:∀j k (h:k<l.length),Q k→L (j+1) k=if p l[k] k=true then L j (k+1)else some false):
  ∀(t:List α) (j k:Nat),l.drop k=t→k≤l.length→t.length<j→Q k→L j k=if B32 p t k=true then r else some false
 |[],j+1,k,hd,hk,_,_=>by
  have:k=l.length:=by
   rcases zE1 k l.length with h'|h'
   ·rw[zC1 h']at hd;cases hd
   ·omega
  subst this;rw[hexit];rfl
 |x::t,j+1,k,hd,hk,hj,hq=>by
  obtain⟨h2,h3,h4⟩:=B2z hd x
  have hx:l[k]=x:=by simpa[List.getD,h2]using h3
  rw[hstep j k h2 hq,hx]
  by_cases hp:p x k=true
  ·rw[B9s p Q l L r hexit hQ hstep t j (k+1) h4 (by omega) (by simp at hj;omega) (hQ k h2 hq (by rw[hx];exact hp))]
   simp[hp,B32]
  ·simp[hp,B32]
theorem B3t {α:Type}(p:α→Nat→Bool):∀(l:List α) (k:Nat),B32 p l k=true↔∀i (h:i<l.length),p l[i] (k+i)=true
 |[],k=>by simp[B32]
 |x::t,k=>by
  simp only[B32,zJ,B3t p t (k+1)]
  constructor
  ·rintro⟨h1,h2⟩ i hi
   cases i with
   |zero=>exact h1
   |succ i=>have:=h2 i (by simp at hi;omega);rwa[show k+1+i=k+(i+1)by omega]at this
  ·intro h
   refine⟨h 0 (by simp),fun i hi=>?_⟩
   have:=h (i+1) (by simp;omega)
   rwa[show k+(i+1)=k+1+i by omega]at this
theorem C02 {α β:Type}(l:List α)(g:α→β)(L:Nat→Nat→List β→Option (List β))(hexit:∀j s,L (j+1) l.length s=some s)
  (hstep:∀j k s (h:k<l.length),s.length=k→L (j+1) k s=L j (k+1) (s++[g l[k]])):∀(t:List α) (j k:Nat) (s:List β),l.drop k=t→k≤l.length→t.length<j→s.length=k→L j k s=some (s++t.map g)
 |[],j+1,k,s,hd,hk,_,hs=>by
  have:k=l.length:=by
   rcases zE1 k l.length with h'|h'
   ·rw[zC1 h']at hd;cases hd
   ·omega
  subst this;rw[hexit];simp
 |x::t,j+1,k,s,hd,hk,hj,hs=>by
  obtain⟨h2,h3,h4⟩:=B2z hd x
  have hx:l[k]=x:=by simpa[List.getD,h2]using h3
  rw[hstep j k s h2 hs,hx,C02 l g L hexit hstep t j (k+1) _ h4 (by omega) (by simp at hj;omega) (by simp[hs])]
  simp
abbrev B5d:=Int×(Int×(ByteArray))
instance i_Val:DecidableEq B5d:=@instDecidableEqProd _ _ inferInstance (@instDecidableEqProd _ _ inferInstance (inferInstance))
def B8d (k:Nat)(x:B5d):Prop:=x.2.2.size≤k
abbrev B2w:=List B5d
def D2h (k:Nat)(l:B2w):Prop:=l.length≤k∧∀x∈l,B8d k x
abbrev B3n:=ByteArray×(Int×(Bool×(Bool×(B5d))))
instance i_Col:DecidableEq B3n:=@instDecidableEqProd _ _ inferInstance (@instDecidableEqProd _ _ inferInstance (@instDecidableEqProd _ _ inferInstance (@instDecidableEqProd _ _ inferInstance (inferInstance))))
def B6d (k:Nat)(x:B3n):Prop:=x.1.size≤k∧B8d k x.2.2.2.2
abbrev B26:=List B3n
def D1d (k:Nat)(l:B26):Prop:=l.length≤k∧∀x∈l,B6d k x
abbrev A7d:=List ByteArray
def C37 (k:Nat)(l:A7d):Prop:=l.length≤k∧∀x∈l,x.size≤k
abbrev C3:=ByteArray×(B26×(A7d))
instance i_Table:DecidableEq C3:=@instDecidableEqProd _ _ inferInstance (@instDecidableEqProd _ _ inferInstance (inferInstance))
def B2t (k:Nat)(x:C3):Prop:=x.1.size≤k∧D1d k x.2.1∧C37 k x.2.2
abbrev B2c:=List C3
def B64 (k:Nat)(l:B2c):Prop:=l.length≤k∧∀x∈l,B2t k x
abbrev D35:=B2c
abbrev B4h:=B2w
def C36 (k:Nat)(x:B4h):Prop:=D2h k x
abbrev B28:=List B4h
def B5u (k:Nat)(l:B28):Prop:=l.length≤k∧∀x∈l,C36 k x
abbrev D2n:=B28
abbrev D24:=List D2n
abbrev D3j:=D35×(D24)
instance i_Db:DecidableEq D3j:=@instDecidableEqProd _ _ inferInstance (inferInstance)
abbrev B2g:=Int×(ByteArray×(B26×(A7d×(ByteArray×(ByteArray)))))
instance i_Ddl:DecidableEq B2g:=@instDecidableEqProd _ _ inferInstance (@instDecidableEqProd _ _ inferInstance (@instDecidableEqProd _ _ inferInstance (@instDecidableEqProd _ _ inferInstance (@instDecidableEqProd _ _ inferInstance (inferInstance)))))
def B7g (k:Nat)(x:B2g):Prop:=x.2.1.size≤k∧D1d k x.2.2.1∧C37 k x.2.2.2.1∧x.2.2.2.2.1.size≤k∧x.2.2.2.2.2.size≤k
abbrev D1q:=Int×(ByteArray×(B2w×(B4h×(B2g))))
instance i_Stmt:DecidableEq D1q:=@instDecidableEqProd _ _ inferInstance (@instDecidableEqProd _ _ inferInstance (@instDecidableEqProd _ _ inferInstance (@instDecidableEqProd _ _ inferInstance (inferInstance))))
abbrev D36:=Int×(Int×(D1q))
instance i_Rec:DecidableEq D36:=@instDecidableEqProd _ _ inferInstance (@instDecidableEqProd _ _ inferInstance (inferInstance))
abbrev C9d:=List Int
def D0k (k:Nat)(l:C9d):Prop:=l.length≤k∧∀x∈l,0≤x∧x≤255
theorem D31 {n b:Nat}(hb:1≤b)(h:n*b≤reachBytes):n≤140737488355328:=Nat.le_trans (Nat.le_trans (Nat.le_mul_of_pos_right n hb) h) (by decide)
abbrev D23:Kd:= .sl (.int .u8)
theorem D3i {B:Kd→Nat}(hB:∀g,1≤B g)(x:C9d)(h:Wf B D23 x):D0k 140737488355328 x:=⟨D31 (hB _) h.1,fun y hy=>h.2 y hy⟩
abbrev E0:ByteArray:=⟨#[]⟩
theorem C1r:EV fun n=>∀a b c,B5r n a b c=some (decide (b≤a∧a≤c)):=EV.true.up fun n _ a b c=>by
 simp only[B5r]
 by_cases h:b≤a<;>simp[h]
theorem D1m:EV fun n=>∀a,B9j n a=some (decide (-1099511627775≤a∧a≤1099511627775)):=EV.true.up fun n _ a=>by
 simp only[B9j]
 by_cases h: -1099511627775≤a<;>simp[h]
def lower (b:UInt8):Bool:=decide (97≤b.toNat∧b.toNat≤122)
def B33 (s:ByteArray):Bool:=s.data.toList.all lower&&decide (1≤s.size∧s.size≤8)
theorem B98:EV fun n=>∀s:ByteArray,s.size≤1048576→B52 n s=some (B33 s):=(EV.gt 1048576).up fun n h s hs=>by
 rw[B52]
 refine(D1s s (fun j k (_:Unit)=>B5g n j s (k:Int)) (fun t _=>some (t.all lower&&decide (1≤s.size∧s.size≤8))) (fun j _=>?_) (fun j k x t _ hd hk hb ih=>?_) (by omega) ())
 ·simp only[B5g,D3,zP,zH,zA,List.all_nil,zG1]
  by_cases h1:(1:Int)≤(s.size:Int)
  ·simp only[zD h1,zB];congr 1;exact decide_eq_decide.mpr (by omega)
  ·simp only[zK h1,zA];congr 1;exact(zK (by omega)).symm
 ·simp only[B5g,D3,zD hk,D4 hk,zB,hb,R2 hk (by omega),List.all_cons]
  have:=ih ()
  rw[this]
  by_cases h1:(x.toNat:Int)<97
  ·have:lower x=false:=zK (by omega)
   simp only[zD h1,zB,this,Bool.false_and]
  ·by_cases h2:(122:Int)<(x.toNat:Int)
   ·have:lower x=false:=zK (by omega)
    simp only[zD h2,zK h1,zB,zA,this,Bool.false_and]
   ·have:lower x=true:=zD (by omega)
    simp only[zK h2,zK h1,zA,this,zG1]
theorem B90:EV fun n=>∀s:ByteArray,s.size≤1048576→B4z n s=some (B33 s):=(C1r.and (EV.gt 1048576)).up fun n ⟨hw,h⟩ s hs=>by
 rw[B4z]
 refine(D1s s (fun j k (_:Unit)=>B5f n j s (k:Int)) (fun t _=>some (t.all lower&&decide (1≤s.size∧s.size≤8))) (fun j _=>?_) (fun j k x t _ hd hk hb ih=>?_) (by omega) ())
 ·simp only[B5f,D3,zP,zH,zA,List.all_nil,zG1,hw,zC]
  congr 1;exact decide_eq_decide.mpr (by omega)
 ·simp only[B5f,D3,zD hk,D4 hk,zB,hb,R2 hk (by omega),List.all_cons]
  have:=ih ()
  rw[this]
  by_cases h1:(x.toNat:Int)<97
  ·have:lower x=false:=zK (by omega)
   simp only[zD h1,zB,this,Bool.false_and]
  ·by_cases h2:(122:Int)<(x.toNat:Int)
   ·have:lower x=false:=zK (by omega)
    simp only[zD h2,zK h1,zB,zA,this,Bool.false_and]
   ·have:lower x=true:=zD (by omega)
    simp only[zK h2,zK h1,zA,this,zG1]
def B41 (a b:Int)(s:ByteArray):Bool:=
 if a=0 then decide (b=0)&&decide (s=E0)else if a=1 then decide (b=0∨b=1)&&decide (s=E0)else
 if a=2 then decide (-1099511627775≤b∧b≤1099511627775)&&decide (s=E0)else if a=3 then decide (b=0)&&decide (s.size≤30)else false
theorem B9u:EV fun n=>∀a b s,B6e n a b s=some (B41 a b s):=D1m.up fun n h a b s=>by
 have hz:decide ((s.size:Int)≤30)=decide (s.size≤30):=decide_eq_decide.mpr (by omega)
 simp only[B6e,h,B3q,zC,B2r,hz]
 generalize he:decide (s=E0)=e
 have he':decide (s=⟨#[]⟩)=e:=he
 simp only[B41,he,he']
 by_cases h0:a=0
 ·subst h0;by_cases hb:b=0<;>simp[hb]
 ·by_cases h1:a=1
  ·subst h1;by_cases hb:b=0
   ·simp[hb]
   ·by_cases hb1:b=1<;>simp[hb,hb1]
  ·by_cases h2:a=2
   ·subst h2;by_cases hb: -1099511627775≤b∧b≤1099511627775<;>simp[hb]
   ·by_cases h3:a=3
    ·subst h3;by_cases hb:b=0<;>simp[hb]
    ·simp[h0,h1,h2,h3]
theorem B9t:EV fun n=>∀a b s,B72 n a b s=some (B41 a b s):=C1r.up fun n h a b s=>by
 have hz:decide ((s.size:Int)≤30)=decide (s.size≤30):=decide_eq_decide.mpr (by omega)
 simp only[B72,h,B3q,zC,B2r,hz]
 generalize he:decide (s=E0)=e
 have he':decide (s=⟨#[]⟩)=e:=he
 simp only[B41,he,he']
 by_cases h0:a=0
 ·subst h0;by_cases hb:b=0<;>simp[hb]
 ·by_cases h1:a=1
  ·subst h1;by_cases hb:b=0
   ·simp[hb]
   ·by_cases hb1:b=1
    ·simp[hb,hb1]
    ·have:¬(0≤b∧b≤1):=by omega
     simp[hb,hb1,this]
  ·by_cases h2:a=2
   ·subst h2;by_cases hb: -1099511627775≤b∧b≤1099511627775<;>simp[hb]
   ·by_cases h3:a=3
    ·subst h3;by_cases hb:b=0<;>simp[hb]
    ·simp[h0,h1,h2,h3]
def B4x (x y:B5d):Bool:=
 B41 x.1 x.2.1 x.2.2&&B41 y.1 y.2.1 y.2.2&&(if x.1=y.1 then(if x.2.1=y.2.1 then Op.bytesLess x.2.2.toList y.2.2.toList else decide (x.2.1<y.2.1))else decide (x.1<y.1))
theorem C0s:EV fun n=>∀x y:B5d,B7h n x.1 x.2.1 x.2.2 y.1 y.2.1 y.2.2=some (B4x x y):=B9u.up fun n h x y=>by
 obtain⟨a,b,s⟩:=x;obtain⟨c,d,t⟩:=y
 simp only[B7h,h,zC,B4x,B2r,B6q]
 cases B41 a b s<;>cases B41 c d t<;>simp
 by_cases h1:a=c
 ·by_cases h2:b=d
  ·simp[h1,h2]
  ·by_cases h3:b<d<;>simp[h1,h2,h3]
 ·simp[h1]
theorem C5y:EV fun n=>∀x y:B5d,B7c n x.1 x.2.1 x.2.2 y.1 y.2.1 y.2.2=some (B4x x y):=B9t.up fun n h x y=>by
 obtain⟨a,b,s⟩:=x;obtain⟨c,d,t⟩:=y
 simp only[B7c,h,zC,B4x,B2r,B6q]
 cases B41 a b s<;>cases B41 c d t<;>simp
 by_cases h1:a=c
 ·by_cases h2:b=d
  ·simp[h1,h2]
  ·by_cases h3:b<d<;>simp[h1,h2,h3]
 ·simp[h1]
def B8c:B5d:=(0,0,E0)
def B4j (x:B3n):Bool:=
 B33 x.1&&decide (1≤x.2.1∧x.2.1≤3)&&(if x.2.2.2.1 then B41 x.2.2.2.2.1 x.2.2.2.2.2.1 x.2.2.2.2.2.2&&(decide (x.2.2.2.2.1=x.2.1)||decide (x.2.2.2.2.1=0)&& !x.2.2.1)else decide (x.2.2.2.2=B8c))
theorem D1a (a b:Int)(s:ByteArray):((a==(0:Int))&&((b==(0:Int))&&(decide (s=E0)&&true)))=decide ((a,b,s)=B8c):=by
 by_cases h1:a=0<;>by_cases h2:b=0<;>by_cases h3:s=E0<;>simp[B8c,h1,h2,h3]
theorem C2s:EV fun n=>∀x:B3n,B6d 1048576 x→B7q n x.1 x.2.1 x.2.2.1 x.2.2.2.1 x.2.2.2.2.1 x.2.2.2.2.2.1 x.2.2.2.2.2.2=some (B4j x):=(B98.and B9u).up fun n ⟨h1,h2⟩ x hs=>by
 obtain⟨a,t,nt,hs',v⟩:=x
 obtain⟨b,c,s⟩:=v
 have hw:=h1 a hs.1
 simp only[B7q,hw,h2,zC,B3q,D1a,B4j]
 cases B33 a
 ·simp
 by_cases c1:t<1
 ·simp[c1];omega
 by_cases c2:3<t
 ·simp[c1,c2];omega
 have c3:1≤t∧t≤3:=by omega
 simp only[zT,zA,zK c1,zK c2,zD c3,zG1]
 cases hs'<;>simp
 cases hv:B41 b c s
 ·simp
 by_cases hn:(b,c,s)=B8c
 ·have h0:¬(0:Int)=t:=by omega
  simp only[B8c,zR]at hn;obtain⟨rfl,rfl,rfl⟩:=hn
  cases nt<;>simp[B8c,h0]
 ·by_cases hbt:b=t
  ·subst hbt;cases nt<;>simp[hn,B2r]
  ·by_cases hb:b=0
   ·exfalso
    subst hb
    simp[B41]at hv
    exact hn (by simp[B8c,hv])
   ·cases nt<;>simp[hn,hbt,hb,B2r]
theorem C2p:EV fun n=>∀x:B3n,B6d 1048576 x→B8x n x.1 x.2.1 x.2.2.1 x.2.2.2.1 x.2.2.2.2.1 x.2.2.2.2.2.1 x.2.2.2.2.2.2=some (B4j x):=(B90.and (B9t.and C1r)).up fun n ⟨h1,h2,h3⟩ x hs=>by
 obtain⟨a,t,nt,hs',v⟩:=x
 obtain⟨b,c,s⟩:=v
 have hw:=h1 a hs.1
 simp only[B8x,hw,h2,h3,zC,B3q,D1a,B4j]
 cases B33 a
 ·simp
 by_cases c3:1≤t∧t≤3
 ·simp only[zT,zA,zD c3,zG1]
  cases hs'
  ·by_cases hn:(b,c,s)=B8c
   ·have:B41 b c s=true:=by
     simp[B8c]at hn;obtain⟨rfl,rfl,rfl⟩:=hn;rfl
    simp[hn,this]
   ·cases B41 b c s<;>simp[hn]
  ·cases B41 b c s<;>simp
   by_cases hbt:b=t
   ·simp[hbt,B2r]
   ·by_cases hb:b=0
    ·subst hb;cases nt<;>simp[hbt,B2r]
    ·simp[hbt,hb,B2r]
 ·simp[zK c3]
theorem D14 (x y:B5d):((x.1==y.1)&&((x.2.1==y.2.1)&&((x.2.2.toList==y.2.2.toList)&&true)))=decide (x=y):=by
 obtain⟨a,b,s⟩:=x;obtain⟨c,d,t⟩:=y
 simp only[B3q,B2r]
 by_cases h1:a=c<;>by_cases h2:b=d<;>by_cases h3:s=t<;>simp[h1,h2,h3]
def B2q:List B5d→List B5d→Bool
 |[],[]=>false
 |[],_::_=>true
 |_::_,[]=>false
 |x::s,y::t=>if x=y then B2q s t else B4x x y
theorem B8e:EV fun n=>∀x y:B2w,x.length≤1048576→B6s n x y=some (B2q x y):=(C0s.and (EV.gt 1048576)).up fun n ⟨h,hn⟩ x y hx=>by
 rw[B6s]
 have key:∀(s:B2w) (j k:Nat),x.drop k=s→k≤x.length→k≤y.length→s.length<j→B3i n j x y (k:Int)=some (B2q s (y.drop k)):=by
  intro s
  induction s with
  |nil=>
   intro j k hd hk hky hj
   obtain⟨j,rfl⟩:∃i,j=i+1:=⟨j - 1,by simp at hj;omega⟩
   have:k=x.length:=by
    rcases zE1 k x.length with h'|h'
    ·rw[zC1 h']at hd;cases hd
    ·omega
   subst this
   simp only[B3i,D3,zP,zH,zA]
   cases hy:y.drop x.length with
   |nil=>
    have:y.length≤x.length:=List.drop_eq_nil_iff.mp hy
    rw[zK (by omega)];rfl
   |cons z t=>
    have:x.length<y.length:=(B2z hy z).1
    rw[zD this];rfl
  |cons a s ih=>
   intro j k hd hk hky hj
   obtain⟨j,rfl⟩:∃i,j=i+1:=⟨j - 1,by simp at hj;omega⟩
   obtain⟨h1,h2,h3⟩:=B2z hd (0,0,E0)
   simp only[B3i,D3,zD h1,zB]
   cases hy:y.drop k with
   |nil=>
    have:y.length≤k:=List.drop_eq_nil_iff.mp hy
    rw[zK (by omega),zA,zK (by omega)];rfl
   |cons b t=>
    obtain⟨g1,g2,g3⟩:=B2z hy (0,0,E0)
    simp only[zD g1,zB,D4 h1,D4 g1,zE,R2 h1 (by omega)]
    rw[show x.getD k (0,0,⟨#[]⟩)=a from h2,show y.getD k (0,0,⟨#[]⟩)=b from g2,D14,h,ih j (k+1) h3 (by omega) (by omega) (by simp at hj;omega),g3]
    simp only[B2q,B8t,zC]
    by_cases e:a=b<;>simp[e]
 exact key x n 0 rfl (by omega) (by omega) (by omega)
theorem B8z {n:Nat}(h:∀x y:B5d,B7c n x.1 x.2.1 x.2.2 y.1 y.2.1 y.2.2=B7h n x.1 x.2.1 x.2.2 y.1 y.2.1 y.2.2):∀(j:Nat) (x y:B2w) (i:Int),B5z n j x y i=B3i n j x y i
 |0,_,_,_=>rfl
 |j+1,x,y,i=>by simp only[B5z,B3i,h,B8z h j]
theorem C5w:EV fun n=>∀x y:B2w,x.length≤1048576→B8i n x y=some (B2q x y):=by
 obtain⟨N,h⟩:=B8e.and (C0s.and C5y)
 refine⟨N+1,fun n hn x y hx=>?_⟩
 obtain⟨m,rfl⟩:∃m,n=m+1:=⟨n - 1,by omega⟩
 have h1:=(h (m+1) (by omega)).1 x y hx
 have h2:=(h m (by omega)).2
 rw[B6s]at h1
 rw[B8i,B8z (fun x y=>by rw[h2.1,h2.2])]
 exact h1
theorem C20:EV fun n=>∀x y:B2w,x.length≤1048576→B6u n x y=some (decide (x=y)):=(EV.gt 1048576).up fun n hn x y hx=>by
 rw[B6u]
 by_cases hl:x.length=y.length
 ·have:((x.length:Int) !=(y.length:Int))=false:=by simp[hl]
  simp only[this,zA]
  refine(C6d x y hl (fun j k=>B3g n j x y (x.length:Int) (k:Int)) (fun j=>by simp only[B3g,D3,zP,zH,zA]) (fun j k hk hk2=>?_) x n 0 rfl (by omega) (by omega)).trans (by simp)
  simp only[B3g,D3,zD hk,D4 hk,D4 hk2,zE,getD_at hk,getD_at hk2,zB,R2 hk (by omega),D14]
  exact C9n _ _ _
 ·have:((x.length:Int) !=(y.length:Int))=true:=by simp;omega
  simp only[this,zB]
  congr 1;exact(zK fun h=>hl (by rw[h])).symm
def D1 (cs:B26)(name:ByteArray):Int:=idx (fun c=>decide (c.1=name)) cs
theorem B6z:EV fun n=>∀(a:ByteArray) (cs:B26) (ks:A7d) (s:ByteArray),cs.length≤1048576→B4l n a cs ks s=some (D1 cs s):=(EV.gt 1048576).up fun n hn a cs ks s hl=>by
 rw[B4l]
 refine B74 (fun c=>decide (c.1=s)) cs (fun j k=>B65 n j s cs (cs.length:Int) (k:Int)) (fun j=>by simp only[B65,D3,zP,zH,zA]) (fun j k hk=>?_) cs n 0 rfl (by omega) (by omega)
 simp only[B65,D3,zD hk,D4 hk,zE,getD_at hk,zB,R2 hk (by omega),B3q]
 exact B7p _ _
theorem B6y:EV fun n=>∀(a:ByteArray) (cs:B26) (ks:A7d) (s:ByteArray),cs.length≤1048576→B29 n a cs ks s=some (idx (fun c=>decide (c.1=s)) cs):=
 ((EV.true.up (q:=fun n=>∀(x:B3n) (s:ByteArray),B8h n x.1 x.2.1 x.2.2.1 x.2.2.2.1 x.2.2.2.2.1 x.2.2.2.2.2.1 x.2.2.2.2.2.2 s=some (decide (x.1=s))) fun n h x s=>by simp only[B8h,B3q]).and (EV.gt 1048576)).up
  (q:=fun n=>∀(cs:B26) (s:ByteArray),cs.length≤1048576→B2e n cs s=some (idx (fun c=>decide (c.1=s)) cs)) (fun n ⟨h,hn⟩ cs s hl=>by
  rw[B2e]
  refine B74 (fun c=>decide (c.1=s)) cs (fun j k=>V1 n j cs s (cs.length:Int) (k:Int)) (fun j=>by simp only[V1,D3,zP,zH,zA]) (fun j k hk=>?_) cs n 0 rfl (by omega) (by omega)
  simp only[V1,D3,zD hk,D4 hk,zE,getD_at hk,zB,R2 hk (by omega),h,zC]
  exact B7p _ _)|>.up fun n h a cs ks s hl=>by simp only[B29,h cs s hl,zC]
def B34 (cs:B26)(key:ByteArray)(last:Int):Option Int:=if last<D1 cs key∧(cs.getD (D1 cs key).toNat (E0,(0,(false,(false,B8c))))).2.2.1=true then some (D1 cs key)else none
def B25 (x:C3):Bool:=
 B33 x.1&&decide (1≤x.2.1.length∧x.2.1.length≤8)&&decide (1≤x.2.2.length)&&B32 (fun c k=>B4j c&&decide (D1 x.2.1 c.1=(k:Int))) x.2.1 0&&(runs (B34 x.2.1) x.2.2 (-1)).isSome
theorem B71:EV fun n=>∀x:C3,B2t 1048576 x→B51 n x.1 x.2.1 x.2.2=some (B25 x):=(B98.and (C2s.and (B6z.and (EV.gt 1048576)))).up fun n ⟨h1,h2,h3,hn⟩ x hs=>by
 obtain⟨a,cs,ks⟩:=x
 obtain⟨s1,s2,s3⟩:=hs
 have s1:a.size≤1048576:=s1
 have s2l:cs.length≤1048576:=s2.1
 have s3l:ks.length≤1048576:=s3.1
 have hL2:B44 n n (-1) ks (ks.length:Int) 0 a cs ks=after (runs (B34 cs) ks (-1)) (some false) fun _=>some true:=by
  refine C71 ks (B34 cs) (fun j k s=>B44 n j s ks (ks.length:Int) (k:Int) a cs ks) (fun _=>some true) (some false) (fun s=> -1≤s) (fun x hx s s' h h'=>?_) (fun j s _=>by simp only[B44,D3,zP,zH,zA]) (fun j k s hk hs=>?_) ks n 0 (-1) rfl (by omega) (by omega) (by decide)
  ·simp only[B34]at h';split at h'
   ·obtain rfl:=oI h';exact(C0b _ _).1
   ·cases h'
  ·simp only[B44,D3,zD hk,D4 hk,zE,getD_at hk,zB,R2 hk (by omega),h3 _ _ _ _ s2l,zC,B34]
   obtain⟨i1,i2⟩: -1≤D1 cs ks[k]∧D1 cs ks[k]<(cs.length:Int):=C0b _ _
   by_cases hc:D1 cs ks[k]≤s
   ·rw[zD hc,if_neg (by omega)];rfl
   ·have:inR (D1 cs ks[k]) cs.length=true:=by simp only[inR];exact zD (by omega)
    rw[zK hc,this]
    simp only[zA,zB]
    cases hb:(cs.getD (D1 cs ks[k]).toNat (E0,(0,(false,(false,B8c))))).2.2.1
    ·rw[show(cs.getD (D1 cs ks[k]).toNat (⟨#[]⟩,(0,(false,(false,(0,(0,⟨#[]⟩))))))).2.2.1=false from hb];simp[after]
    ·rw[show(cs.getD (D1 cs ks[k]).toNat (⟨#[]⟩,(0,(false,(false,(0,(0,⟨#[]⟩))))))).2.2.1=true from hb,if_pos ⟨by omega,rfl⟩];rfl
 have hL1:B43 n n cs (cs.length:Int) 0 a cs ks=if B32 (fun c k=>B4j c&&decide (D1 cs c.1=(k:Int))) cs 0=true then(after (runs (B34 cs) ks (-1)) (some false) fun _=>some true)else some false:=by
  refine B5t _ cs (fun j k=>B43 n j cs (cs.length:Int) (k:Int) a cs ks) _ (fun j=>by simp only[B43,D3,zP,zH,zA,hL2]) (fun j k hk=>?_) cs n 0 rfl (by omega) (by omega)
  simp only[B43,D3,zD hk,D4 hk,zE,getD_at hk,zB,R2 hk (by omega),h3 _ _ _ _ s2l,zC,h2 cs[k] (s2.2 _ (zL hk)),B6q]
  by_cases e:D1 cs cs[k].1=(k:Int)<;>cases B4j cs[k]<;>simp[e]
 simp only[B51,h1 a s1,zC,hL1,B25]
 cases B33 a
 ·simp
 by_cases c1:(cs.length:Int)<1
 ·rw[zD c1,zK (show¬(1≤cs.length∧cs.length≤8)by omega)];simp
 by_cases c2:(8:Int)<(cs.length:Int)
 ·rw[zK c1,zD c2,zK (show¬(1≤cs.length∧cs.length≤8)by omega)];simp
 rw[zK c1,zK c2,zD (show(1≤cs.length∧cs.length≤8)by omega)]
 by_cases c3:(ks.length:Int)<1
 ·rw[zD c3,zK (show¬1≤ks.length by omega)];simp
 rw[zK c3,zD (show 1≤ks.length by omega)]
 simp only[zT,zA,zG1]
 cases B32 (fun c k=>B4j c&&decide (D1 cs c.1=(k:Int))) cs 0
 ·simp
 ·cases runs (B34 cs) ks (-1)<;>simp[after]
theorem B8b:EV fun n=>∀x:C3,B2t 1048576 x→B6p n x.1 x.2.1 x.2.2=some (B25 x):=(B90.and (C2p.and (B6y.and (C1r.and (EV.gt 1048576))))).up fun n ⟨h1,h2,h3,h4,hn⟩ x hs=>by
 obtain⟨a,cs,ks⟩:=x
 obtain⟨s1,s2,s3⟩:=hs
 have s1:a.size≤1048576:=s1
 have s2l:cs.length≤1048576:=s2.1
 have s3l:ks.length≤1048576:=s3.1
 have h3:∀s,B29 n a cs ks s=some (D1 cs s):=fun s=>h3 _ _ _ _ s2l
 have hL2:B42 n n (-1) ks (ks.length:Int) 0 a cs ks=after (runs (B34 cs) ks (-1)) (some false) fun _=>some (B33 a&&decide (1≤cs.length∧cs.length≤8)&&decide (1≤ks.length)):=by
  refine C71 ks (B34 cs) (fun j k s=>B42 n j s ks (ks.length:Int) (k:Int) a cs ks) (fun _=>some (B33 a&&decide (1≤cs.length∧cs.length≤8)&&decide (1≤ks.length))) (some false) (fun s=> -1≤s) (fun x hx s s' h h'=>?_) (fun j s _=>?_) (fun j k s hk hs=>?_) ks n 0 (-1) rfl (by omega) (by omega) (by decide)
  ·simp only[B34]at h';split at h'
   ·obtain rfl:=oI h';exact(C0b _ _).1
   ·cases h'
  ·simp only[B42,D3,zP,zH,zA,h1 a s1,h4,zC]
   rw[show decide ((1:Int)≤(cs.length:Int)∧(cs.length:Int)≤8)=decide (1≤cs.length∧cs.length≤8)from decide_eq_decide.mpr (by omega),show decide ((0:Int)<(ks.length:Int))=decide (1≤ks.length)from decide_eq_decide.mpr (by omega)]
   cases B33 a<;>cases decide (1≤cs.length∧cs.length≤8)<;>simp
  ·simp only[B42,D3,zD hk,D4 hk,zE,getD_at hk,zB,R2 hk (by omega),h3,zC,B34]
   obtain⟨i1,i2⟩: -1≤D1 cs ks[k]∧D1 cs ks[k]<(cs.length:Int):=C0b _ _
   by_cases hc:D1 cs ks[k]≤s
   ·rw[zD hc,if_neg (by omega)];rfl
   ·have:inR (D1 cs ks[k]) cs.length=true:=by simp only[inR];exact zD (by omega)
    rw[zK hc,this]
    simp only[zA,zB]
    cases hb:(cs.getD (D1 cs ks[k]).toNat (E0,(0,(false,(false,B8c))))).2.2.1
    ·rw[show(cs.getD (D1 cs ks[k]).toNat (⟨#[]⟩,(0,(false,(false,(0,(0,⟨#[]⟩))))))).2.2.1=false from hb];simp[after]
    ·rw[show(cs.getD (D1 cs ks[k]).toNat (⟨#[]⟩,(0,(false,(false,(0,(0,⟨#[]⟩))))))).2.2.1=true from hb,if_pos ⟨by omega,rfl⟩];rfl
 simp only[B6p]
 refine(B5t (fun c k=>B4j c&&decide (D1 cs c.1=(k:Int))) cs (fun j k=>B4r n j cs (cs.length:Int) (k:Int) a cs ks) _ (fun j=>by simp only[B4r,D3,zP,zH,zA];exact hL2) (fun j k hk=>?_) cs n 0 rfl (by omega) (by omega)).trans ?_
 ·simp only[B4r,D3,zD hk,D4 hk,zE,getD_at hk,zB,R2 hk (by omega),h3,zC,h2 cs[k] (s2.2 _ (zL hk)),B6q]
  by_cases e:D1 cs cs[k].1=(k:Int)<;>cases B4j cs[k]<;>simp[e]
 ·simp only[B25]
  cases B32 (fun c k=>B4j c&&decide (D1 cs c.1=(k:Int))) cs 0
  ·simp
  ·cases runs (B34 cs) ks (-1)<;>simp[after]
def B3b (l:B2c)(t:C3)(k:Nat):Bool:=B25 t&&(decide (k=0)||Op.bytesLess (l.getD (k - 1) (E0,([],[]))).1.toList t.1.toList)
def B88 (l:B2c):Bool:=decide (l.length≤6)&&B32 (B3b l) l 0
theorem C1o {k:Nat}(h:0<k)(h2:k≤1048576):IntKind.wrap .i64 ((k:Int) - (1:Int))=((k - 1:Nat):Int):=by rw[wrap64]<;>omega
theorem C8a:EV fun n=>∀l:B2c,B64 1048576 l→C0d n l=some (B88 l):=(B71.and (EV.gt 1048576)).up fun n ⟨h,hn⟩ l hs=>by
 have hl:=hs.1
 have key:B4e n n l (l.length:Int) 0 l=if B32 (B3b l) l 0=true then some true else some false:=by
  refine B5t (B3b l) l (fun j k=>B4e n j l (l.length:Int) (k:Int) l) _ (fun j=>by simp only[B4e,D3,zP,zH,zA]) (fun j k hk=>?_) l n 0 rfl (by omega) (by omega)
  simp only[B4e,D3,zD hk,D4 hk,zE,getD_at hk,zB,R2 hk (by omega),h l[k] (hs.2 _ (zL hk)),zC]
  by_cases ht:B25 l[k]=true
  ·by_cases h0:k=0
   ·subst h0
    have:B3b l l[0] 0=true:=by simp[B3b,ht]
    simp[ht,this]
   ·have e:B3b l l[k] k=Op.bytesLess (l.getD (k - 1) (E0,([],[]))).1.toList l[k].1.toList:=by simp[B3b,ht,h0]
    rw[zD (show(0:Int)<(k:Int)by omega),C1o (by omega) (by omega),D4 (show k - 1<l.length by omega),zE,ht,e]
    simp only[zB,zT,zA]
    exact B8t _ _
  ·have:B3b l l[k] k=false:=by simp[B3b,ht]
   simp[ht,this]
 simp only[C0d,B88,key]
 by_cases c:(6:Int)<(l.length:Int)
 ·rw[zD c,zK (show¬l.length≤6 by omega)];rfl
 ·rw[zK c,zD (show l.length≤6 by omega)]
  cases B32 (B3b l) l 0<;>rfl
theorem C2o:EV fun n=>∀l:B2c,B64 1048576 l→B8w n l=some (B88 l):=(B8b.and (EV.gt 1048576)).up fun n ⟨h,hn⟩ l hs=>by
 have hl:=hs.1
 simp only[B8w]
 refine(B5t (B3b l) l (fun j k=>B5a n j l (l.length:Int) (k:Int) l) (some (decide ((l.length:Int)≤6))) (fun j=>by simp only[B5a,D3,zP,zH,zA]) (fun j k hk=>?_) l n 0 rfl (by omega) (by omega)).trans ?_
 ·simp only[B5a,D3,zD hk,D4 hk,zE,getD_at hk,zB,R2 hk (by omega),h l[k] (hs.2 _ (zL hk)),zC]
  by_cases ht:B25 l[k]=true
  ·by_cases h0:k=0
   ·subst h0
    have:B3b l l[0] 0=true:=by simp[B3b,ht]
    simp[ht,this]
   ·have e:B3b l l[k] k=Op.bytesLess (l.getD (k - 1) (E0,([],[]))).1.toList l[k].1.toList:=by simp[B3b,ht,h0]
    rw[zD (show(0:Int)<(k:Int)by omega),C1o (by omega) (by omega),D4 (show k - 1<l.length by omega),zE,ht,e]
    simp only[zB,zT,zA]
    exact B8t _ _
  ·have:B3b l l[k] k=false:=by simp[B3b,ht]
   simp[ht,this]
 ·simp only[B88]
  rw[show decide ((l.length:Int)≤6)=decide (l.length≤6)from decide_eq_decide.mpr (by omega)]
  cases B32 (B3b l) l 0<;>simp
theorem D2q (x y:B3n):((x.1.toList==y.1.toList)&&((x.2.1==y.2.1)&&((x.2.2.1==y.2.2.1)&&((x.2.2.2.1==y.2.2.2.1)&&((x.2.2.2.2.1==y.2.2.2.2.1)&&((x.2.2.2.2.2.1==y.2.2.2.2.2.1)&&((x.2.2.2.2.2.2.toList==y.2.2.2.2.2.2.toList)&&true)))))))=decide (x=y):=by
 rw[D14 x.2.2.2.2 y.2.2.2.2]
 obtain⟨a,b,c,d,e⟩:=x;obtain⟨a',b',c',d',e'⟩:=y
 simp only[B3q,B2r,Bool.beq_eq_decide_eq]
 by_cases h1:a=a'<;>by_cases h2:b=b'<;>by_cases h3:c=c'<;>by_cases h4:d=d'<;>by_cases h5:e=e'<;>simp[h1,h2,h3,h4,h5,C7s]
theorem C34:EV fun n=>∀x y:B26,x.length≤1048576→B35 n x y=some (decide (x=y)):=(EV.gt 1048576).up fun n hn x y hx=>by
 rw[B35]
 by_cases hl:x.length=y.length
 ·have:((x.length:Int) !=(y.length:Int))=false:=by simp[hl]
  simp only[this,zA]
  refine(C6d x y hl (fun j k=>B2f n j x y (x.length:Int) (k:Int)) (fun j=>by simp only[B2f,D3,zP,zH,zA]) (fun j k hk hk2=>?_) x n 0 rfl (by omega) (by omega)).trans (by simp)
  simp only[B2f,D3,zD hk,D4 hk,D4 hk2,zE,getD_at hk,getD_at hk2,zB,R2 hk (by omega),D2q]
  exact C9n _ _ _
 ·have:((x.length:Int) !=(y.length:Int))=true:=by simp;omega
  simp only[this,zB]
  congr 1;exact(zK fun h=>hl (by rw[h])).symm
theorem C35:EV fun n=>∀x y:List ByteArray,x.length≤1048576→B3f n x y=some (decide (x=y)):=(EV.gt 1048576).up fun n hn x y hx=>by
 rw[B3f]
 by_cases hl:x.length=y.length
 ·have:((x.length:Int) !=(y.length:Int))=false:=by simp[hl]
  simp only[this,zA]
  refine(C6d x y hl (fun j k=>B2m n j x y (x.length:Int) (k:Int)) (fun j=>by simp only[B2m,D3,zP,zH,zA]) (fun j k hk hk2=>?_) x n 0 rfl (by omega) (by omega)).trans (by simp)
  simp only[B2m,D3,zD hk,D4 hk,D4 hk2,zE,getD_at hk,getD_at hk2,zB,R2 hk (by omega),B3q]
  exact C9n _ _ _
 ·have:((x.length:Int) !=(y.length:Int))=true:=by simp;omega
  simp only[this,zB]
  congr 1;exact(zK fun h=>hl (by rw[h])).symm
def B8u (c:B3n)(v:B5d):Bool:=B41 v.1 v.2.1 v.2.2&&(if v.1=0 then !c.2.2.1 else decide (v.1=c.2.1))
def CZ:B3n:=(E0,(0,(false,(false,B8c))))
def B4b (cs:B26)(r:B2w):Bool:=decide (r.length=cs.length)&&B32 (fun c k=>B8u c (r.getD k B8c)) cs 0
def B2i (cs:B26)(ks:A7d)(r:B2w):B2w:=ks.map fun key=>r.getD (D1 cs key).toNat B8c
theorem C9b {cs:B26}:∀{ks:A7d} {last:Int},(runs (B34 cs) ks last).isSome=true→ -1≤last→∀key∈ks,0≤D1 cs key∧(cs.getD (D1 cs key).toNat CZ).2.2.1=true
 |[],_,_,_,key,h=>by simp at h
 |x::t,last,h,hl,key,hk=>by
  simp only[runs,B34]at h
  split at h
  ·rename_i hc
   rcases List.mem_cons.mp hk with rfl|hk
   ·exact⟨by omega,hc.2⟩
   ·exact C9b h (C0b _ _).1 key hk
  ·simp at h
theorem B79 {x:C3}(h:B25 x=true):(∀key∈x.2.2,0≤D1 x.2.1 key∧D1 x.2.1 key<(x.2.1.length:Int)∧(x.2.1.getD (D1 x.2.1 key).toNat CZ).2.2.1=true)∧(∀c∈x.2.1,B4j c=true)∧x.2.1.length≤8∧1≤x.2.1.length:=by
 simp only[B25,zJ,zG]at h
 obtain⟨⟨⟨⟨h1,h2⟩,h3⟩,h4⟩,h5⟩:=h
 refine⟨fun key hk=>?_,fun c hc=>?_,h2.2,h2.1⟩
 ·obtain⟨k1,k2⟩:=C9b h5 (by omega) key hk
  exact⟨k1,(C0b _ _).2,k2⟩
 ·obtain⟨i,hi,rfl⟩:=List.mem_iff_getElem.mp hc
  have:=(B3t _ _ _).mp h4 i hi
  simp only[zJ]at this
  exact this.1
theorem D2r {c:B3n}(h:B4j c=true):1≤c.2.1∧c.2.1≤3:=by
 simp only[B4j,zJ,zG]at h
 exact h.1.2
theorem B63 (cs:B26)(ks:A7d)(r:B2w):(B2i cs ks r).length=ks.length:=by simp[B2i]
theorem C56 {r:B2w}{k:Nat}:r.getD k (0,(0,⟨#[]⟩))=r.getD k B8c:=rfl
theorem D19 {i:Int}{n:Nat}(h1:0≤i)(h2:i<(n:Int)):inR i n=true:=by simp only[inR];exact zD ⟨h1,h2⟩
theorem C62:EV fun n=>∀(c:B3n) (v:B5d),B8o n c.1 c.2.1 c.2.2.1 c.2.2.2.1 c.2.2.2.2.1 c.2.2.2.2.2.1 c.2.2.2.2.2.2 v.1 v.2.1 v.2.2=some (B8u c v):=B9u.up fun n h c v=>by
 simp only[B8o,h,zC,B8u,B2r]
 by_cases h0:v.1=0<;>cases B41 v.1 v.2.1 v.2.2<;>simp[h0]
theorem C6x:EV fun n=>∀(c:B3n) (v:B5d),c.2.1≠0→B9f n c.1 c.2.1 c.2.2.1 c.2.2.2.1 c.2.2.2.2.1 c.2.2.2.2.2.1 c.2.2.2.2.2.2 v.1 v.2.1 v.2.2=some (B8u c v):=B9t.up fun n h c v hc=>by
 simp only[B9f,h,zC,B8u,B2r]
 cases B41 v.1 v.2.1 v.2.2
 ·simp
 ·by_cases h0:v.1=0
  ·have:¬(0:Int)=c.2.1:=fun e=>hc e.symm
   simp[h0,this]
  ·by_cases h1:v.1=c.2.1<;>simp[h0,h1]
   exact .inl hc
theorem C2u:EV fun n=>∀(x:C3) (r:B2w),B2t 1048576 x→B96 n x.1 x.2.1 x.2.2 r=some (B25 x&&B4b x.2.1 r):=(B71.and (C62.and (EV.gt 1048576))).up fun n ⟨h1,h2,hn⟩ x r hs=>by
 have lc:=hs.2.1.1
 simp only[B96,h1 x hs,zC,B6q,B4b]
 cases B25 x
 ·simp
 by_cases hl:r.length=x.2.1.length
 ·have hl':((r.length:Int)=(x.2.1.length:Int))=True:=eq_true (by omega)
  simp only[zT,zA,hl',zI,hl,zG1]
  refine(B5t (fun c k=>B8u c (r.getD k B8c)) x.2.1 (fun j k=>B67 n j x.2.1 (x.2.1.length:Int) (k:Int) r) (some true) (fun j=>by simp only[B67,D3,zP,zH,zA]) (fun j k hk=>?_) x.2.1 n 0 rfl (by omega) (by omega)).trans ?_
  ·have hk2:k<r.length:=by omega
   simp only[B67,D3,zD hk,D4 hk,D4 hk2,zE,getD_at hk,zB,R2 hk (by omega),h2,zC,C56]
   exact B8t _ _
  ·cases B32 (fun c k=>B8u c (r.getD k B8c)) x.2.1 0<;>rfl
 ·have hl':¬(r.length:Int)=(x.2.1.length:Int):=by omega
  simp[hl,hl']
theorem C89:EV fun n=>∀(x:C3) (r:B2w),B2t 1048576 x→B25 x=true→C0c n x.1 x.2.1 x.2.2 r=some (B4b x.2.1 r):=(C6x.and (EV.gt 1048576)).up fun n ⟨h2,hn⟩ x r hs ht=>by
 have lc:=hs.2.1.1
 obtain⟨_,hcol,_⟩:=B79 ht
 simp only[C0c,B6q,B4b]
 by_cases hl:r.length=x.2.1.length
 ·have hl':((r.length:Int)=(x.2.1.length:Int))=True:=eq_true (by omega)
  simp only[zT,zA,hl',zI,hl,zG1]
  refine(B5t (fun v k=>B8u (x.2.1.getD k CZ) v) r (fun j k=>B62 n j r (x.2.1.length:Int) (k:Int) x.1 x.2.1 x.2.2) (some true) (fun j=>by rw[hl];simp only[B62,D3,zP,zH,zA]) (fun j k hk=>?_) r n 0 rfl (by omega) (by omega)).trans ?_
  ·have hk2:k<x.2.1.length:=by omega
   simp only[B62,D3,zD hk2,D4 hk,D4 hk2,zE,getD_at hk,getD_at hk2,zB,R2 hk (by omega)]
   rw[h2 x.2.1[k] r[k] (by have:=D2r (hcol _ (zL hk2));omega)]
   exact B8t _ _
  ·have:B32 (fun v k=>B8u (x.2.1.getD k CZ) v) r 0=B32 (fun c k=>B8u c (r.getD k B8c)) x.2.1 0:=by
    rw[Bool.eq_iff_iff,B3t,B3t]
    constructor
    ·intro h i hi
     have:=h i (by omega)
     rw[zS,getD_at hi]at this
     rw[zS,getD_at (show i<r.length by omega)];exact this
    ·intro h i hi
     have:=h i (by omega)
     rw[zS,getD_at hi]at this
     rw[zS,getD_at (show i<x.2.1.length by omega)];exact this
   rw[this]
   cases B32 (fun c k=>B8u c (r.getD k B8c)) x.2.1 0<;>rfl
 ·have hl':¬(r.length:Int)=(x.2.1.length:Int):=by omega
  simp[hl,hl']
theorem B7k:EV fun n=>∀(x:C3) (r:B2w),B2t 1048576 x→B25 x=true→r.length=x.2.1.length→B59 n x.1 x.2.1 x.2.2 r=some (B2i x.2.1 x.2.2 r):=(B6z.and (EV.gt 1048576)).up fun n ⟨h1,hn⟩ x r hs ht hr=>by
 have lk:=hs.2.2.1
 obtain⟨hkey,_⟩:=B79 ht
 rw[B59]
 refine(C02 x.2.2 (fun key=>r.getD (D1 x.2.1 key).toNat B8c) (fun j k s=>B5p n j x.2.2 (x.2.2.length:Int) (k:Int) x.1 x.2.1 x.2.2 r s) (fun j s=>by simp only[B5p,D3,zP,zH,zA]) (fun j k s hk hsl=>?_) x.2.2 n 0 [] rfl (by omega) (by omega) rfl).trans (by simp[B2i])
 obtain⟨k1,k2,k3⟩:=hkey _ (zL hk)
 have hroom:room (s.length+1) 32=true:=by simp[room];omega
 simp only[B5p,D3,zD hk,D4 hk,zE,getD_at hk,zB,R2 hk (by omega),h1 _ _ _ _ hs.2.1.1,zC,C56,D19 k1 (show D1 x.2.1 x.2.2[k]<(r.length:Int)by omega),zW,zX,zS,hroom]
theorem C88:EV fun n=>∀(x:C3) (r:B2w),B2t 1048576 x→B25 x=true→r.length=x.2.1.length→B91 n x.1 x.2.1 x.2.2 r=some (B2i x.2.1 x.2.2 r):=(B6y.and (EV.gt 1048576)).up fun n ⟨h1,hn⟩ x r hs ht hr=>by
 have lk:=hs.2.2.1
 have h1:∀s,B29 n x.1 x.2.1 x.2.2 s=some (D1 x.2.1 s):=fun s=>h1 _ _ _ _ hs.2.1.1
 obtain⟨hkey,_⟩:=B79 ht
 rw[B91]
 refine(C02 x.2.2 (fun key=>r.getD (D1 x.2.1 key).toNat B8c) (fun j k s=>B61 n j x.2.2 (x.2.2.length:Int) (k:Int) x.1 x.2.1 x.2.2 r s) (fun j s=>by simp only[B61,D3,zP,zH,zA]) (fun j k s hk hsl=>?_) x.2.2 n 0 [] rfl (by omega) (by omega) rfl).trans (by simp[B2i])
 obtain⟨k1,k2,k3⟩:=hkey _ (zL hk)
 have hroom:room (s.length+1) 32=true:=by simp[room];omega
 simp only[B61,D3,zD hk,D4 hk,zE,getD_at hk,zB,R2 hk (by omega),h1,zC,C56,D19 k1 (show D1 x.2.1 x.2.2[k]<(r.length:Int)by omega),zW,zX,zS,hroom]
def B2u (x:C3)(l:B28)(r:B4h)(k:Nat):Bool:=B4b x.2.1 r&&(decide (k=0)||B2q (B2i x.2.1 x.2.2 (l.getD (k - 1) [])) (B2i x.2.1 x.2.2 r))
def B3p (x:C3)(l:B28):Bool:=B25 x&&decide (l.length≤60)&&B32 (B2u x l) l 0
theorem B75 {cs:B26}{r:B2w}(h:B4b cs r=true):r.length=cs.length:=by
 simp only[B4b,zJ,zG]at h;exact h.1
theorem B7f {x:C3}{l:B28}(h:B3p x l=true):B25 x=true∧l.length≤60∧∀r∈l,B4b x.2.1 r=true:=by
 simp only[B3p,zJ,zG]at h
 refine⟨h.1.1,h.1.2,fun r hr=>?_⟩
 obtain⟨i,hi,rfl⟩:=List.mem_iff_getElem.mp hr
 have:=(B3t _ _ _).mp h.2 i hi
 simp only[B2u,zJ]at this
 exact this.1
theorem B97:EV fun n=>∀(x:C3) (l:B28),B2t 1048576 x→l.length≤1048576→B76 n x.1 x.2.1 x.2.2 l=some (B3p x l):=(B71.and (C2u.and (B7k.and (B8e.and (EV.gt 1048576))))).up fun n ⟨h1,h2,h3,h4,hn⟩ x l hs hl=>by
 simp only[B76,h1 x hs,zC,B3p]
 by_cases ht:B25 x=true
 ·simp only[ht,zT,zA,zG1]
  by_cases c:(60:Int)<(l.length:Int)
  ·rw[zD c,zK (show¬l.length≤60 by omega)];rfl
  ·rw[zK c,zD (show l.length≤60 by omega)]
   simp only[zA,zG1]
   refine(B9s (B2u x l) (fun k=>∀i,i<k→∀h:i<l.length,B4b x.2.1 l[i]=true) l (fun j k=>B4m n j l l (l.length:Int) (k:Int) x.1 x.2.1 x.2.2) (some true) (fun j=>by simp only[B4m,D3,zP,zH,zA]) (fun k hk hq hp i hi h=>?_) (fun j k hk hq=>?_) l n 0 rfl (by omega) (by omega) (fun i hi=>by omega)).trans ?_
   ·by_cases e:i<k
    ·exact hq i e h
    ·obtain rfl:i=k:=by omega
     simp only[B2u,zJ]at hp
     exact hp.1
   ·simp only[B4m,D3,zD hk,D4 hk,zE,getD_at hk,zB,R2 hk (by omega),h2 x l[k] hs,ht,zG1,zC]
    by_cases hr:B4b x.2.1 l[k]=true
    ·by_cases h0:k=0
     ·subst h0
      have:B2u x l l[0] 0=true:=by simp[B2u,hr]
      simp[hr,this]
     ·have hk1:k - 1<l.length:=by omega
      have e:B2u x l l[k] k=B2q (B2i x.2.1 x.2.2 l[k - 1]) (B2i x.2.1 x.2.2 l[k]):=by simp only[B2u,hr,zK h0,zG1,Bool.false_or,getD_at hk1]
      have hprev:=hq (k - 1) (by omega) hk1
      rw[zD (show(0:Int)<(k:Int)by omega),C1o (by omega) (by omega),D4 hk1,zE,hr,e,getD_at hk1,h3 x _ hs ht (B75 hprev),h3 x _ hs ht (B75 hr)]
      simp only[zB,zT,zA,zC]
      rw[h4 _ _ (by rw[B63];exact hs.2.2.1)]
      exact B8t _ _
    ·have:B2u x l l[k] k=false:=by simp[B2u,hr]
     simp[hr,this]
   ·cases B32 (B2u x l) l 0<;>rfl
 ·simp[ht]
theorem C1i:EV fun n=>∀(x:C3) (l:B28),B2t 1048576 x→l.length≤1048576→B82 n x.1 x.2.1 x.2.2 l=some (B3p x l):=(B8b.and (C89.and (C88.and (C5w.and (EV.gt 1048576))))).up fun n ⟨h1,h2,h3,h4,hn⟩ x l hs hl=>by
 simp only[B82,h1 x hs,zC,B3p]
 by_cases ht:B25 x=true
 ·simp only[ht,zT,zA,zG1]
  by_cases c:(60:Int)<(l.length:Int)
  ·rw[zD c,zK (show¬l.length≤60 by omega)];rfl
  ·rw[zK c,zD (show l.length≤60 by omega)]
   simp only[zA,zG1]
   refine(B9s (B2u x l) (fun k=>∀i,i<k→∀h:i<l.length,B4b x.2.1 l[i]=true) l (fun j k=>B4k n j l l (l.length:Int) (k:Int) x.1 x.2.1 x.2.2) (some true) (fun j=>by simp only[B4k,D3,zP,zH,zA]) (fun k hk hq hp i hi h=>?_) (fun j k hk hq=>?_) l n 0 rfl (by omega) (by omega) (fun i hi=>by omega)).trans ?_
   ·by_cases e:i<k
    ·exact hq i e h
    ·obtain rfl:i=k:=by omega
     simp only[B2u,zJ]at hp
     exact hp.1
   ·simp only[B4k,D3,zD hk,D4 hk,zE,getD_at hk,zB,R2 hk (by omega),h2 x l[k] hs ht,zC]
    by_cases hr:B4b x.2.1 l[k]=true
    ·by_cases h0:k=0
     ·subst h0
      have:B2u x l l[0] 0=true:=by simp[B2u,hr]
      simp[hr,this]
     ·have hk1:k - 1<l.length:=by omega
      have e:B2u x l l[k] k=B2q (B2i x.2.1 x.2.2 l[k - 1]) (B2i x.2.1 x.2.2 l[k]):=by simp only[B2u,hr,zK h0,zG1,Bool.false_or,getD_at hk1]
      have hprev:=hq (k - 1) (by omega) hk1
      rw[zD (show(0:Int)<(k:Int)by omega),C1o (by omega) (by omega),D4 hk1,zE,hr,e,getD_at hk1,h3 x _ hs ht (B75 hprev),h3 x _ hs ht (B75 hr)]
      simp only[zB,zT,zA,zC]
      rw[h4 _ _ (by rw[B63];exact hs.2.2.1)]
      exact B8t _ _
    ·have:B2u x l l[k] k=false:=by simp[B2u,hr]
     simp[hr,this]
   ·cases B32 (B2u x l) l 0<;>rfl
 ·simp[ht]
theorem D18 {α:Type}(p:α→Bool):∀(l:List α) (k:Nat),decide ((0:Int)≤idxFrom p l k)=l.any p
 |[],_=>rfl
 |x::t,k=>by
  simp only[idxFrom,List.any_cons]
  by_cases h:p x=true
  ·simp[h]
  ·simp only[h,Bool.false_or];exact D18 p t (k+1)
def B3d (d:B2g):Bool:=B33 d.2.1&&(
 if d.1=1 then decide (d.2.2.2.2.1=E0)&&decide (d.2.2.2.2.2=E0)&&B25 (d.2.1,(d.2.2.1,d.2.2.2.1))else
 if d.1=2 then d.2.2.1.isEmpty&&d.2.2.2.1.isEmpty&&decide (d.2.2.2.2.1=E0)&&decide (d.2.2.2.2.2=E0)else
 if d.1=3 then(match d.2.2.1 with
  |[c]=>B4j c&&(c.2.2.2.1|| !c.2.2.1)&&d.2.2.2.1.isEmpty&&decide (d.2.2.2.2.1=E0)&&decide (d.2.2.2.2.2=E0)
  |_=>false)else
 if d.1=4 then d.2.2.1.isEmpty&&d.2.2.2.1.isEmpty&&B33 d.2.2.2.2.1&&decide (d.2.2.2.2.2=E0)else
 if d.1=5 then d.2.2.1.isEmpty&&d.2.2.2.1.isEmpty&&B33 d.2.2.2.2.1&&B33 d.2.2.2.2.2 else false)
theorem D1l {n:Nat}:inR (0:Int) (n+1)=true:=by simp[inR]
theorem C2t:EV fun n=>∀d:B2g,B7g 1048576 d→B95 n d.1 d.2.1 d.2.2.1 d.2.2.2.1 d.2.2.2.2.1 d.2.2.2.2.2=some (B3d d):=(B98.and (B71.and C2s)).up fun n ⟨h1,h2,h3⟩ d hs=>by
 obtain⟨k,tb,cs,ks,nm,to⟩:=d
 obtain⟨s1,s2,s3,s4,s5⟩:=hs
 have e2:=h2 (tb,cs,ks) ⟨s1,s2,s3⟩
 simp only at s1 s2 s3 s4 s5 e2
 simp only[B95,h1 tb s1,h1 nm s4,h1 to s5,e2,B3q,B2r,zC,B3d]
 have hk:((ks.length:Int)=0)=(ks.isEmpty=true):=by cases ks<;>simp<;>omega
 have hc:((cs.length:Int)=0)=(cs.isEmpty=true):=by cases cs<;>simp<;>omega
 simp only[hk,hc]
 generalize ks.isEmpty=b1
 change _=some (B33 tb&&(if k=1 then decide (nm=E0)&&decide (to=E0)&&B25 (tb,cs,ks)else _))
 generalize decide (nm=(⟨#[]⟩:ByteArray))=b2
 generalize decide (to=(⟨#[]⟩:ByteArray))=b3
 cases B33 tb
 ·rfl
 by_cases k1:k=1
 ·subst k1
  rcases cs with _|⟨c,t⟩<;>cases b2<;>cases b3<;>simp
 by_cases k2:k=2
 ·subst k2
  rcases cs with _|⟨c,t⟩<;>cases b1<;>cases b2<;>simp
 by_cases k3:k=3
 ·subst k3
  rcases cs with _|⟨c,_|⟨d,t⟩⟩
  ·simp
  ·have e3:=h3 c (s2.2 c (by simp))
   simp[e3,inR]
   cases B4j c<;>cases c.2.2.2.1<;>cases c.2.2.1<;>cases b1<;>cases b2<;>simp
  ·have:¬((t.length:Int)+1+1=1):=by omega
   simp[this]
 by_cases k4:k=4
 ·subst k4
  rcases cs with _|⟨c,t⟩<;>cases b1<;>cases B33 nm<;>simp
 by_cases k5:k=5
 ·subst k5
  rcases cs with _|⟨c,t⟩<;>cases b1<;>cases B33 nm<;>simp
 rcases cs with _|⟨c,t⟩<;>simp[k1,k2,k3,k4,k5]
theorem C4a:EV fun n=>∀l:List ByteArray,l.length≤1048576→B7d n l=some l:=EV.true.up fun n _ l hl=>by
 have hroom:room l.length 16=true:=by simp[room];omega
 simp only[B7d,hroom,zB]
theorem B9e:EV fun n=>∀x:C3,B2t 1048576 x→B6c n x.1 x.2.1 x.2.2=some x:=C4a.up fun n h x hs=>by
 have hl:x.2.1.length≤1048576:=hs.2.1.1
 have hroom:room x.2.1.length 64=true:=by simp[room];omega
 have hroom2:room x.2.1.length 72=true:=by simp[room];omega
 have hroom3:room x.2.1.length 80=true:=by simp[room];omega
 simp only[B6c,hroom,zB,h _ hs.2.2.1,zC]
theorem C01:EV fun n=>∀d:B2g,B7g 1048576 d→B60 n d.1 d.2.1 d.2.2.1 d.2.2.2.1 d.2.2.2.2.1 d.2.2.2.2.2=some (d.2.1,(d.2.2.1,d.2.2.2.1)):=B9e.up fun n h d hs=>by
 have:=h (d.2.1,(d.2.2.1,d.2.2.2.1)) ⟨hs.1,hs.2.1,hs.2.2.1⟩
 simp only at this
 simp only[B60,this,zC]
theorem C5b:EV fun n=>∀d e:B2g,B7g 1048576 d→B5b n d.1 d.2.1 d.2.2.1 d.2.2.2.1 d.2.2.2.2.1 d.2.2.2.2.2 e.1 e.2.1 e.2.2.1 e.2.2.2.1 e.2.2.2.2.1 e.2.2.2.2.2=some (decide (d=e)):=(C34.and C35).up fun n ⟨h1,h2⟩ d e hs=>by
 obtain⟨k,tb,cs,ks,nm,to⟩:=d;obtain⟨k',tb',cs',ks',nm',to'⟩:=e
 have e1:=h1 cs cs' hs.2.1.1
 have e2:=h2 ks ks' hs.2.2.1.1
 simp only[B5b,e1,e2,B3q,B2r,zC]
 by_cases a1:k=k'<;>by_cases a2:tb=tb'<;>by_cases a3:cs=cs'<;>by_cases a4:ks=ks'<;>by_cases a5:nm=nm'<;>by_cases a6:to=to'<;>simp[a1,a2,a3,a4,a5,a6]
theorem C2q:EV fun n=>∀d:B2g,B7g 1048576 d→B8y n d.1 d.2.1 d.2.2.1 d.2.2.2.1 d.2.2.2.2.1 d.2.2.2.2.2=some (B3d d):=(B90.and (B8b.and (C2p.and (C01.and C5b)))).up fun n ⟨h1,h2,h3,h4,h5⟩ d hs=>by
 obtain⟨k,tb,cs,ks,nm,to⟩:=d
 have e4:=h4 _ hs
 have e5:=fun cs' ks' nm' to'=>h5 (k,tb,cs,ks,nm,to) (k,tb,cs',ks',nm',to') hs
 obtain⟨s1,s2,s3,s4,s5⟩:=hs
 have e2:=h2 (tb,cs,ks) ⟨s1,s2,s3⟩
 simp only at s1 s2 s3 s4 s5 e2 e4 e5
 simp only[B8y,h1 tb s1,h1 nm s4,h1 to s5,e2,e4,e5,B3q,B2r,zC,B3d,zR,true_and]
 cases B33 tb
 ·rfl
 by_cases k1:k=1
 ·subst k1
  cases B25 (tb,cs,ks)<;>by_cases a5:nm=E0<;>by_cases a6:to=E0<;>simp[a5,a6]
 have ec:∀{α:Type} (l:List α),l.isEmpty=decide (l=[]):=fun l=>by cases l<;>rfl
 rw[ec cs,ec ks]
 by_cases k2:k=2
 ·subst k2
  by_cases a3:cs=[]<;>by_cases a4:ks=[]<;>by_cases a5:nm=E0<;>by_cases a6:to=E0<;>simp[a3,a4,a5,a6]
 by_cases k3:k=3
 ·subst k3
  rcases cs with _|⟨c,_|⟨d,t⟩⟩
  ·simp
  ·have e3:=h3 c (s2.2 c (by simp))
   simp[e3,inR]
   cases B4j c<;>cases c.2.2.2.1<;>cases c.2.2.1<;>by_cases a4:ks=[]<;>by_cases a5:nm=E0<;>by_cases a6:to=E0<;>simp[a4,a5,a6]
  ·have:¬((t.length:Int)+1+1=1):=by omega
   simp[this]
 by_cases k4:k=4
 ·subst k4
  by_cases a3:cs=[]<;>by_cases a4:ks=[]<;>by_cases a6:to=E0<;>cases B33 nm<;>simp[a3,a4,a6]
 by_cases k5:k=5
 ·subst k5
  by_cases a3:cs=[]<;>by_cases a4:ks=[]<;>cases B33 nm<;>simp[a3,a4]
 simp[k1,k2,k3,k4,k5]
def D3f:B2g:=(0,(E0,([],([],(E0,E0)))))
def D0q (x:C3)(l:B28)(key:B2w):Int:=if B3p x l=true then idx (fun r=>decide (B2i x.2.1 x.2.2 r=key)) l else -1
theorem C8b:EV fun n=>∀(x:C3) (l:B28) (key:B2w),B2t 1048576 x→l.length≤1048576→C0e n x.1 x.2.1 x.2.2 l key=some (D0q x l key):=(B97.and (B7k.and (C20.and (EV.gt 1048576)))).up fun n ⟨h1,h2,h3,hn⟩ x l key hs hl=>by
 simp only[C0e,h1 x l hs hl,zC,D0q]
 by_cases hr:B3p x l=true
 ·obtain⟨ht,_,hin⟩:=B7f hr
  simp only[hr,zT,zA,if_true]
  refine B74 (fun r=>decide (B2i x.2.1 x.2.2 r=key)) l (fun j k=>B66 n j key l (l.length:Int) (k:Int) x.1 x.2.1 x.2.2) (fun j=>by simp only[B66,D3,zP,zH,zA]) (fun j k hk=>?_) l n 0 rfl (by omega) (by omega)
  have hk2:=B75 (hin _ (zL hk))
  simp only[B66,D3,zD hk,D4 hk,zE,getD_at hk,zB,R2 hk (by omega),h2 x _ hs ht hk2,zC]
  rw[h3 _ _ (by rw[B63];exact hs.2.2.1)]
  exact B7p _ _
 ·simp[hr]
theorem B9a {α:Type}{p:α→Nat→Bool}{l:List α}(h:B32 p l 0=true){i:Nat}(hi:i<l.length):p l[i] i=true:=by
 have:=(B3t p l 0).mp h i hi
 rwa[zS]at this
theorem B9z {l:B2c}(h:B88 l=true):l.length≤6∧∀t∈l,B25 t=true:=by
 simp only[B88,zJ,zG]at h
 refine⟨h.1,fun t ht=>?_⟩
 obtain⟨i,hi,rfl⟩:=List.mem_iff_getElem.mp ht
 have:=B9a h.2 hi
 simp only[B3b,zJ]at this
 exact this.1
def dig (d:Int):ByteArray:=strOfNums [48+d]
def D2t:Nat→Int→ByteArray
 |0,_=>E0
 |f+1,a=>if a<10 then dig a else D2t f (a / 10)++dig (a % 10)
def D3e:ByteArray:=⟨#[45]⟩
def D1v (a:Int):ByteArray:=if -1099511627775≤a∧a≤1099511627775 then(if a<0 then D3e++D2t 14 (-a)else D2t 14 a)else E0
def D3k:ByteArray:=⟨#[48,49,50,51,52,53,54,55,56,57,97,98,99,100,101,102]⟩
def D3d (k:Nat):Int:=bt D3k (k:Int)
abbrev D2y (b:UInt8):Prop:=33≤b.toNat∧b.toNat≤126∧b.toNat≠39∧b.toNat≠37
def D2z (b:UInt8):List Int:=if D2y b then [(b.toNat:Int)]else [37,D3d (b.toNat / 16),D3d (b.toNat % 16)]
def D21:List UInt8→List Int
 |[]=>[]
 |b::t=>D2z b++D21 t
def D2p (s:ByteArray):ByteArray:=strOfNums ([39]++D21 s.data.toList++[39])
def D2k:ByteArray:=⟨#[110,117,108,108]⟩
def D2j (b:Int):ByteArray:=if b=1 then⟨#[116,114,117,101]⟩else⟨#[102,97,108,115,101]⟩
def D1w (x:B5d):ByteArray:=if B41 x.1 x.2.1 x.2.2=true then(if x.1=0 then D2k else if x.1=1 then D2j x.2.1 else if x.1=2 then D1v x.2.1 else D2p x.2.2)else E0
def D3g:ByteArray:=⟨#[32]⟩
def D2m:Nat→ByteArray→List ByteArray→ByteArray
 |_,acc,[]=>acc
 |k,acc,t::r=>D2m (k+1) (if 0<k then acc++D3g++t else acc++t) r
def D38 (l:List ByteArray):ByteArray:=D2m 0 E0 l
theorem C96 (l:List Int):(strOfNums l).size=l.length:=by
 show(strOfNums l).data.size=_
 simp[strOfNums]
def tyL:List ByteArray:=[⟨#[]⟩,⟨#[98,111,111,108]⟩,⟨#[105,110,116]⟩,⟨#[116,101,120,116]⟩]
def tyN (a:Int):ByteArray:=tyL.getD a.toNat E0
def D2l (c:B3n):List ByteArray:=[c.1,tyN c.2.1]++(if c.2.2.1=true then [⟨#[110,111,116]⟩]else [])++(if c.2.2.2.1=true then [⟨#[61]⟩++D1w c.2.2.2.2]else [])
def D1x:B26→List ByteArray
 |[]=>[]
 |c::t=>[⟨#[40]⟩]++D2l c++[⟨#[41]⟩]++D1x t
def D3h:List ByteArray:=[⟨#[]⟩,⟨#[99,114,101,97,116,101]⟩,⟨#[100,114,111,112]⟩,⟨#[97,100,100]⟩,⟨#[111,117,116]⟩,⟨#[110,97,109,101]⟩]
def D39 (d:B2g):List ByteArray:=[D3h.getD d.1.toNat E0,d.2.1]++(if d.1=1 then D1x d.2.2.1++[⟨#[107,101,121]⟩]++d.2.2.2.1 else if d.1=3 then(match d.2.2.1 with
 |c::_=>D2l c
 |[]=>[])else if d.1=4 then [d.2.2.2.2.1]else if d.1=5 then [d.2.2.2.2.1,d.2.2.2.2.2]else [])
def D1u (d:B2g):ByteArray:=if B3d d=true then D38 (D39 d)else E0
theorem C0a {d:B2g}(h:B3d d=true):d.1=1∨d.1=2∨d.1=3∨d.1=4∨d.1=5:=by
 simp only[B3d,zJ]at h
 have h2:=h.2
 by_cases c1:d.1=1
 ·exact Or.inl c1
 ·by_cases c2:d.1=2
  ·exact Or.inr (Or.inl c2)
  ·by_cases c3:d.1=3
   ·exact Or.inr (Or.inr (Or.inl c3))
   ·by_cases c4:d.1=4
    ·exact Or.inr (Or.inr (Or.inr (Or.inl c4)))
    ·by_cases c5:d.1=5
     ·exact Or.inr (Or.inr (Or.inr (Or.inr c5)))
     ·rw[if_neg c1,if_neg c2,if_neg c3,if_neg c4,if_neg c5]at h2;cases h2
theorem B9c {d:B2g}(h:B3d d=true)(k:d.1=3):∃c,d.2.2.1=[c]∧B4j c=true:=by
 simp only[B3d,zJ]at h
 have h2:=h.2
 rw[if_neg (by omega),if_neg (by omega),if_pos k]at h2
 cases e:d.2.2.1 with
 |nil=>rw[e]at h2;cases h2
 |cons c t=>
  cases t with
  |nil=>rw[e]at h2;simp only[zJ]at h2;exact⟨c,rfl,h2.1.1.1.1⟩
  |cons=>rw[e]at h2;cases h2
theorem D08 {x:C3}(h:B25 x=true):x.2.2≠[]:=by
 simp only[B25,zJ,zG]at h
 have:=h.1.1.2
 intro e;rw[e]at this;simp at this
theorem C8c:EV fun n=>∀(l:B2c) (s:ByteArray),l.length≤1048576→C0f n l s=some (idx (fun t=>decide (t.1=s)) l):=(EV.gt 1048577).up fun n hn l s hl=>by
 rw[C0f]
 refine B74 (fun t=>decide (t.1=s)) l (fun j k=>B68 n j s l (l.length:Int) (k:Int)) (fun j=>?_) (fun j k hk=>?_) l n 0 rfl (by omega) (by omega)
 ·simp only[B68,D3,zP,zH,zA]
 ·simp only[B68,D3,zD hk,D4 hk,zE,getD_at hk,zB,R2 hk (by omega),B3q]
  exact B7p _ _
theorem C04:EV fun n=>∀x:C3,B2t 1048576 x→B70 n x.1 x.2.1 x.2.2=some x:=EV.true.up fun n _ x hs=>by
 have h1:=hs.2.1.1
 have h2:=hs.2.2.1
 have r1:room (([]:B26).length+x.2.1.length) 64=true:=by simp only[room,zG,zX];omega
 have r2:room (([]:List ByteArray).length+x.2.2.length) 16=true:=by simp only[room,zG,zX];omega
 simp only[B70,r1,r2,zB,List.nil_append]
theorem C1h:EV fun n=>∀(l:B2c) (s:ByteArray),l.length≤1048576→B81 n l s=some (idx (fun t=>decide (t.1=s)) l):=by
 have h0:EV fun n=>∀(l:B2c) (s:ByteArray),l.length≤1048576→B2b n l s=some (idx (fun t=>decide (t.1=s)) l):=(((EV.gt 0).up (q:=fun n=>∀(t:C3) (s:ByteArray),B7s n t.1 t.2.1 t.2.2 s=some (decide (t.1=s))) fun n _ t s=>by simp only[B7s,B3q]).and (EV.gt 1048577)).up fun n ⟨h,hn⟩ l s hl=>by
  rw[B2b]
  refine B74 (fun t=>decide (t.1=s)) l (fun j k=>D5 n j l s (l.length:Int) (k:Int)) (fun j=>?_) (fun j k hk=>?_) l n 0 rfl (by omega) (by omega)
  ·simp only[D5,D3,zP,zH,zA]
  ·simp only[D5,D3,zD hk,D4 hk,zE,getD_at hk,zB,R2 hk (by omega),h,zC]
   exact B7p _ _
 exact h0.up fun n h l s hl=>by simp only[B81,h l s hl,zC]
def C4b:C3:=(E0,([],[]))
theorem C78:EV fun n=>∀r:B2w,r.length≤1048576→B5s n r=some r:=EV.true.up fun n _ r hr=>by
 have r1:room r.length 32=true:=by simp only[room,zG];omega
 have r2:room (([]:B2w).length+r.length) 32=true:=by simp only[room,zG,zX];omega
 simp[B5s,r1]
theorem C5a:EV fun n=>∀r:B2w,r.length≤1048576→B7v n r=some r:=EV.true.up fun n _ r hr=>by
 have r1:room r.length 32=true:=by simp only[room,zG];omega
 have r2:room (([]:B2w).length+r.length) 32=true:=by simp only[room,zG,zX];omega
 simp[B7v,r1]
theorem C59:EV fun n=>∀l:B28,B5u 1048576 l→B7u n l=some l:=(C5a.and (EV.gt 1048577)).up fun n ⟨h,hn⟩ l hs=>by
 have hl:=hs.1
 simp only[B7u]
 refine(C02 l id (fun j k acc=>B4g n j l (l.length:Int) (k:Int) acc) (fun j acc=>?_) (fun j k acc hk ha=>?_) l n 0 [] rfl (by omega) (by omega) rfl).trans (by simp)
 ·simp only[B4g,D3,zP,zH,zA]
 ·have e:=h l[k] (hs.2 _ (zL hk)).1
  have r3:∀x:B2w,room (acc.length+[x].length) 24=true:=fun x=>by simp only[room,zG,zW,zX];omega
  simp only[B4g,D3,zD hk,D4 hk,zE,getD_at hk,zB,R2 hk (by omega),e,zC,r3,id]
theorem D0j {cs:B26}:∀{ks:A7d} {last:Int},(runs (B34 cs) ks last).isSome=true→ -1≤last→last<(cs.length:Int)→last+(ks.length:Int)<(cs.length:Int)
 |[],last,_,_,h=>by simpa using h
 |x::t,last,h,hl,h2=>by
  simp only[runs,B34]at h
  split at h
  ·rename_i hc
   have i2:D1 cs x<(cs.length:Int):=(C0b _ _).2
   have:=D0j (ks:=t) (last:=D1 cs x) h (by omega) i2
   simp only[zW]
   omega
  ·simp at h
theorem D20 {x:C3}(h:B25 x=true):x.2.2.length≤8∧x.2.1.length≤8:=by
 simp only[B25,zJ,zG]at h
 obtain⟨⟨⟨⟨_,h1⟩,h2⟩,_⟩,h3⟩:=h
 have:=D0j h3 (by omega) (by omega)
 omega
def D0o (ws:List ByteArray):Prop:=ws.length≤1048577∧∀w∈ws,w.size≤1048576
theorem D0o.sm {ws:List ByteArray}(h:D0o ws):C37 1048577 ws:=⟨h.1,fun w hw=>by have:=h.2 w hw;omega⟩
theorem D0o.drop {ws:List ByteArray}(h:D0o ws)(i:Nat):D0o (ws.drop i):=⟨by have:=h.1;simp;omega,fun w hw=>h.2 w (List.mem_of_mem_drop hw)⟩
theorem D0o.take {ws:List ByteArray}(h:D0o ws)(i:Nat):D0o (ws.take i):=⟨by have:=h.1;simp;omega,fun w hw=>h.2 w (List.mem_of_mem_take hw)⟩
def fin (d:B2g)(s:ByteArray):B2g×(Bool×Unit):=if D1u d=s then(d,(true,()))else(D3f,(false,()))
def B3a {α:Type}(b:List Int)(P:α→Prop)(r:Option (α×(((List Int)×(Int×Int))×Unit))):Prop:=∃x i h,r=some (x,((b,(i,h)),()))∧0≤i∧P x
theorem D1t (a b:Int):0≤IntKind.wrap .i64 ((BitVec.ofInt (IntKind.bits .i64) a&&&BitVec.ofInt (IntKind.bits .i64) (255:Int)).toNat:Int)∧IntKind.wrap .i64 ((BitVec.ofInt (IntKind.bits .i64) a&&&BitVec.ofInt (IntKind.bits .i64) (255:Int)).toNat:Int)≤255:=by
 have h:(BitVec.ofInt (IntKind.bits .i64) a&&&BitVec.ofInt (IntKind.bits .i64) (255:Int)).toNat≤255:=by
  rw[BitVec.toNat_and]
  exact Nat.and_le_right
 rw[wrap64 (by omega) (by omega)]
 omega
theorem D15:EV fun n=>∀(b:List Int) (i h:Int),b.length≤1048576→0≤i→B3a b (fun x:Int=>0≤x∧x≤255) (B4c n b i h):=EV.true.up fun n _ b i h hb hi=>by
 simp only[B4c,show decide (0≤(33:Int))=true from rfl,show decide (0≤(45:Int))=true from rfl,zB]
 by_cases hl:i<b.length
 ·have e1:decide (i<(b.length:Int))=true:=zD hl
  obtain⟨k,rfl⟩:=Int.eq_ofNat_of_zero_le hi
  have e2:inR (k:Int) b.length=true:=D4 (by omega)
  simp only[e1,e2,zB]
  refine⟨_,_,_,rfl,?_,D1t _ 0⟩
  rw[R2 (n:=b.length) (by omega) (by omega)];omega
 ·have e1:decide (i<(b.length:Int))=false:=zK hl
  simp only[e1,zA]
  exact⟨_,_,_,rfl,hi,D1t _ 0⟩
theorem B4w:EV fun n=>∀(b:List Int) (i h m:Int),b.length≤1048576→0≤i→m≤4294967296→B3a b (fun x:Int=>(0<m→0≤x∧x<m)∧(m≤0→x=0)) (D0 n b i h m):=D15.up fun n hB b i h m hb hi hm=>by
 rw[D0]
 by_cases h0:m≤0
 ·simp only[zD h0,zB]
  exact⟨_,_,_,rfl,hi,by omega,by omega⟩
 ·simp only[zK h0,zA]
  have hz:(!decide (m=0))=true:=by simp;omega
  by_cases h1:m≤256
  ·obtain⟨x,i1,g1,e1,p1,q1⟩:=hB b i h hb hi
   simp only[zD h1,zB,e1,zC,hz]
   refine⟨_,_,_,rfl,p1,fun _=>?_,by omega⟩
   rw[Int.tmod_eq_emod_of_nonneg q1.1]
   exact⟨Int.emod_nonneg _ (by omega),Int.emod_lt_of_pos _ (by omega)⟩
  ·obtain⟨x,i1,g1,e1,p1,q1⟩:=hB b i h hb hi
   obtain⟨y,i2,g2,e2,p2,q2⟩:=hB b i1 g1 hb p1
   obtain⟨z,i3,g3,e3,p3,q3⟩:=hB b i2 g2 hb p2
   obtain⟨w,i4,g4,e4,p4,q4⟩:=hB b i3 g3 hb p3
   simp only[zK h1,zA,zB,e1,e2,e3,e4,zC,hz]
   refine⟨_,_,_,rfl,p4,fun _=>?_,by omega⟩
   rw[wrap64 (x:=x*16777216) (by omega) (by omega),wrap64 (x:=y*65536) (by omega) (by omega),wrap64 (x:=z*256) (by omega) (by omega),wrap64 (x:=x*16777216+y*65536) (by omega) (by omega),wrap64 (x:=x*16777216+y*65536+z*256) (by omega) (by omega),wrap64 (x:=x*16777216+y*65536+z*256+w) (by omega) (by omega)]
   rw[Int.tmod_eq_emod_of_nonneg (by omega)]
   exact⟨Int.emod_nonneg _ (by omega),Int.emod_lt_of_pos _ (by omega)⟩
def C6y (x:Int):Prop:= -9223372036854775808≤x∧x≤9223372036854775807
theorem D30:EV fun n=>∀(b:List Int) (i h:Int),b.length≤1048576→0≤i→B3a b C6y (B77 n b i h):=B4w.up fun n hB b i h hb hi=>by
 obtain⟨k,i1,g1,e1,p1,q1,_⟩:=hB b i h 9 hb hi (by omega)
 have q1:=q1 (by omega)
 simp only[B77,e1,zC,B2r]
 have one:∀m:Int,0<m→m≤4294967296→∃x i2 g2,D0 n b i1 g1 m=some (x,((b,(i2,g2)),()))∧0≤i2∧0≤x∧x<m:=fun m h0 h1=>by
  obtain⟨x,i2,g2,e2,p2,q2,_⟩:=hB b i1 g1 m hb p1 h1
  exact⟨x,i2,g2,e2,p2,(q2 h0).1,(q2 h0).2⟩
 by_cases c1:k<4
 ·obtain⟨x,i2,g2,e2,p2,q2,r2⟩:=one 24 (by decide) (by decide)
  simp only[zD c1,zB,e2,zC]
  refine⟨_,_,_,rfl,p2,?_⟩
  rw[wrap64 (by omega) (by omega)];unfold C6y;omega
 ·simp only[zK c1,zA]
  by_cases c2:k=4
  ·obtain⟨x,i2,g2,e2,p2,q2,r2⟩:=one 3 (by decide) (by decide)
   simp only[zD c2,zB,e2,zC]
   refine⟨_,_,_,rfl,p2,?_⟩
   rw[wrap64 (by omega) (by omega)];unfold C6y;omega
  ·simp only[zK c2,zA]
   by_cases c3:k=5
   ·obtain⟨x,i2,g2,e2,p2,q2,r2⟩:=one 3 (by decide) (by decide)
    simp only[zD c3,zB,e2,zC]
    refine⟨_,_,_,rfl,p2,?_⟩
    rw[wrap64 (by omega) (by omega)];unfold C6y;omega
   ·simp only[zK c3,zA]
    by_cases c4:k=6
    ·obtain⟨x,i2,g2,e2,p2,q2,r2⟩:=one 2 (by decide) (by decide)
     simp only[zD c4,zB,e2,zC]
     refine⟨_,_,_,rfl,p2,?_⟩
     rw[wrap64 (by omega) (by omega)];unfold C6y;omega
    ·simp only[zK c4,zA]
     by_cases c5:k=7
     ·obtain⟨x,i2,g2,e2,p2,q2,r2⟩:=one 2 (by decide) (by decide)
      simp only[zD c5,zB,e2,zC]
      refine⟨_,_,_,rfl,p2,?_⟩
      rw[wrap64 (by omega) (by omega)];unfold C6y;omega
     ·obtain⟨x,i2,g2,e2,p2,q2,r2⟩:=one 2000000 (by decide) (by decide)
      simp only[zK c5,zA,e2,zC]
      exact⟨_,_,_,rfl,p2,by unfold C6y;omega⟩
theorem D2x:EV fun n=>∀(b:List Int),b.length≤1048576→∃h,B9i n b=some ((b,(0,h)),()):=(EV.gt 1048578).up fun n hn b hb=>by
 rw[B9i]
 have:∀(t:List Int) (j k:Nat) (h:Int),b.drop k=t→k≤b.length→t.length<j→∃g,B5h n j b h (k:Int)=some ((b,(0,g)),()):=by
  intro t
  induction t with
  |nil=>
   intro j k h hd hk hj
   obtain⟨j,rfl⟩:∃j',j=j'+1:=⟨j - 1,by omega⟩
   have:k=b.length:=by have:=congrArg List.length hd;simp at this;omega
   subst this
   simp only[B5h,D3,zP,zH,zA]
   exact⟨_,rfl⟩
  |cons x t ih=>
   intro j k h hd hk hj
   obtain⟨j,rfl⟩:∃j',j=j'+1:=⟨j - 1,by omega⟩
   obtain⟨h2,h3,h4⟩:=B2z hd x
   rw[B5h]
   simp only[D3,zD h2,zB]
   by_cases c:(k:Int)<4000
   ·simp only[zD c,D4 h2,zB,R2 h2 (by omega)]
    exact ih j (k+1) _ h4 (by omega) (by simp at hj;omega)
   ·simp only[zK c,zA]
    exact⟨_,rfl⟩
 exact this b n 0 _ rfl (by omega) (by omega)
theorem D0u:EV fun n=>∀(b:List Int) (i h:Int),b.length≤1048576→0≤i→B3a b (fun s:ByteArray=>s.size≤30) (B9k n b i h):=(D15.and (B4w.and (EV.gt 100))).up fun n ⟨hB,hW,hn⟩ b i h hb hi=>by
 obtain⟨k,i1,g1,e1,p1,q1,_⟩:=hW b i h 10 hb hi (by omega)
 have q1:=q1 (by omega)
 obtain⟨k,rfl⟩:=Int.eq_ofNat_of_zero_le q1.1
 simp only[B9k,e1,zC,B2r]
 by_cases c1:(k:Int)<7
 ·have hk:k<7:=by omega
  simp only[zD c1,zB,D4 (k:=k) (n:=[(⟨#[]⟩:ByteArray),(⟨#[97]⟩:ByteArray),(⟨#[98]⟩:ByteArray),(⟨#[97,98]⟩:ByteArray),(⟨#[116,114,117,101]⟩:ByteArray),(⟨#[102,97,108,115,101]⟩:ByteArray),(⟨#[49,50]⟩:ByteArray)].length) hk]
  refine⟨_,_,_,rfl,p1,?_⟩
  rw[zE]
  have:∀k:Fin 7,([(⟨#[]⟩:ByteArray),(⟨#[97]⟩:ByteArray),(⟨#[98]⟩:ByteArray),(⟨#[97,98]⟩:ByteArray),(⟨#[116,114,117,101]⟩:ByteArray),(⟨#[102,97,108,115,101]⟩:ByteArray),(⟨#[49,50]⟩:ByteArray)].getD k.val (⟨#[]⟩:ByteArray)).size≤30:=by decide
  exact this ⟨k,hk⟩
 ·simp only[zK c1,zA]
  by_cases c2:(k:Int)=7
  ·simp only[zD c2,zB]
   exact⟨_,_,_,rfl,p1,by decide⟩
  ·simp only[zK c2,zA]
   obtain⟨m,i2,g2,e2,p2,q2,_⟩:=hW b i1 g1 31 hb p1 (by omega)
   have q2:=q2 (by omega)
   obtain⟨m,rfl⟩:=Int.eq_ofNat_of_zero_le q2.1
   simp only[e2,zC]
   have loop:∀(t j x:Nat) (i g:Int) (acc:List Int),x+t=m→t<j→acc.length=x→0≤i→B3a b (fun s:ByteArray=>s.size≤30) (B5i n j (m:Int) (x:Int) b i g acc):=by
    intro t
    induction t with
    |zero=>
     intro j x i g acc hx hj ha hi
     obtain⟨j,rfl⟩:∃j',j=j'+1:=⟨j - 1,by omega⟩
     have:decide ((x:Int)<(m:Int))=false:=zK (by omega)
     simp only[B5i,this,zA]
     exact⟨_,_,_,rfl,hi,show(strOfNums acc).size≤30 by rw[C96];omega⟩
    |succ t ih=>
     intro j x i g acc hx hj ha hi
     obtain⟨j,rfl⟩:∃j',j=j'+1:=⟨j - 1,by omega⟩
     have e0:decide ((x:Int)<(m:Int))=true:=zD (by omega)
     obtain⟨y,i3,g3,e3,p3,q3⟩:=hB b i g hb hi
     have hr:room (acc.length+[IntKind.wrap .u8 y].length) 1=true:=by simp[room];omega
     simp only[B5i,e0,zB,e3,zC,hr,R2 (show x<m by omega) (by omega)]
     exact ih j (x+1) i3 g3 _ (by omega) (by omega) (by simp;omega) p3
   exact loop m n 0 i2 g2 [] (by omega) (by omega) rfl p2
theorem C55:EV fun n=>∀(b:List Int) (i h ty:Int),b.length≤1048576→0≤i→B3a b (fun v:B5d=>v.2.2.size≤31) (B73 n b i h ty):=(D0u.and B4w).up fun n ⟨hS,hW⟩ b i h ty hb hi=>by
 obtain⟨k,i1,g1,e1,p1,_⟩:=hW b i h 8 hb hi (by omega)
 simp only[B73,e1,zC,B2r]
 by_cases c0:k=0
 ·simp only[zD c0,zB]
  exact⟨_,_,_,rfl,p1,by decide⟩
 ·simp only[zK c0,zA]
  by_cases c1:ty=1
  ·obtain⟨x,i2,g2,e2,p2,_⟩:=hW b i1 g1 2 hb p1 (by omega)
   simp only[zD c1,zB,e2,zC]
   exact⟨_,_,_,rfl,p2,show E0.size≤31 by decide⟩
  ·simp only[zK c1,zA]
   by_cases c2:ty=2
   ·obtain⟨x,i2,g2,e2,p2,_⟩:=hW b i1 g1 12 hb p1 (by omega)
    simp only[zD c2,zB,e2,zC]
    exact⟨_,_,_,rfl,p2,show E0.size≤31 by decide⟩
   ·simp only[zK c2,zA]
    by_cases c3:ty=3
    ·obtain⟨x,i2,g2,e2,p2,q2⟩:=hS b i1 g1 hb p1
     simp only[zD c3,zB,e2,zC]
     exact⟨_,_,_,rfl,p2,Nat.le_trans q2 (by decide)⟩
    ·simp only[zK c3,zA]
     exact⟨_,_,_,rfl,p1,by decide⟩
theorem D0v:EV fun n=>∀(b:List Int) (i h:Int),b.length≤1048576→0≤i→B3a b (fun v:B5d=>v.2.2.size≤31) (B9l n b i h):=(C55.and B4w).up fun n ⟨hS,hW⟩ b i h hb hi=>by
 obtain⟨k,i1,g1,e1,p1,_⟩:=hW b i h 4 hb hi (by omega)
 obtain⟨v,i2,g2,e2,p2,q2⟩:=hS b i1 g1 k hb p1
 simp only[B9l,e1,e2,zC]
 exact⟨_,_,_,rfl,p2,q2⟩
theorem C6t:EV fun n=>∀(b:List Int) (i h:Int),b.length≤1048576→0≤i→B3a b (fun v:B5d=>v.2.2.size≤31) (B83 n b i h):=(D0v.and (B4w.and D30)).up fun n ⟨hV,hW,hR⟩ b i h hb hi=>by
 obtain⟨v,i1,g1,e1,p1,q1⟩:=hV b i h hb hi
 obtain⟨k,i2,g2,e2,p2,_⟩:=hW b i1 g1 12 hb p1 (by omega)
 simp only[B83,e1,e2,zC,B2r]
 by_cases c0:k=0
 ·obtain⟨x,i3,g3,e3,p3,_⟩:=hR b i2 g2 hb p2
  subst c0
  simp only[show decide ((0:Int)=0)=true from rfl,show decide ((0:Int)=1)=false from rfl,show decide ((0:Int)=2)=false from rfl,zB,zA,e3,zC]
  exact⟨_,_,_,rfl,p3,q1⟩
 ·simp only[zK c0,zA]
  by_cases c1:k=1
  ·obtain⟨x,i3,g3,e3,p3,_⟩:=hR b i2 g2 hb p2
   subst c1
   simp only[show decide ((1:Int)=1)=true from rfl,show decide ((1:Int)=2)=false from rfl,zB,zA,e3,zC]
   exact⟨_,_,_,rfl,p3,q1⟩
  ·simp only[zK c1,zA]
   by_cases c2:k=2
   ·obtain⟨x,i3,g3,e3,p3,q3,_⟩:=hW b i2 g2 2 hb p2 (by omega)
    have q3:=q3 (by omega)
    have w:IntKind.wrap .i64 ((30:Int)+x)=30+x:=wrap64 (by omega) (by omega)
    have hr:(decide (True∧0≤30+x)&&room (30+x).toNat 1)=true:=by simp[room];omega
    simp only[zD c2,zB,e3,zC,w,hr]
    refine⟨_,_,_,rfl,p3,?_⟩
    show(strOfNums _).size≤31
    rw[C96,List.length_replicate];omega
   ·simp only[zK c2,zA]
    exact⟨_,_,_,rfl,p2,q1⟩
theorem B7r:∀x y:List UInt8,(Op.bytesLess x y&&Op.bytesLess y x)=false∧(Op.bytesLess x y||Op.bytesLess y x)= !decide (x=y)
 |[],[]=>by simp[Op.bytesLess]
 |[],b::y=>by simp[Op.bytesLess]
 |a::x,[]=>by simp[Op.bytesLess]
 |a::x,b::y=>by
  obtain⟨h1,h2⟩:=B7r x y
  simp only[Op.bytesLess]
  by_cases h:a=b
  ·subst h
   simp only[show(a<a)=False from eq_false (UInt8.lt_irrefl a),zH,Bool.false_or,BEq.rfl,zG1,h1,h2,List.cons.injEq,true_and]
  ·have hn:¬b=a:=fun e=>h e.symm
   have e1:(a==b)=false:=by simp[h]
   have e2:(b==a)=false:=by simp[hn]
   simp only[e1,e2,Bool.false_and,Bool.or_false,List.cons.injEq,h,false_and,zH,zU]
   rcases UInt8.lt_or_lt_of_ne h with g|g
   ·have:¬b<a:=UInt8.lt_asymm g
    simp[g,this]
   ·have:¬a<b:=UInt8.lt_asymm g
    simp[g,this]
theorem D0h {x y:B5d}(hx:B41 x.1 x.2.1 x.2.2=true)(hy:B41 y.1 y.2.1 y.2.2=true):(B4x x y&&B4x y x)=false∧(B4x x y||B4x y x)= !decide (x=y):=by
 obtain⟨a,b,s⟩:=x;obtain⟨c,d,t⟩:=y
 simp only[B4x,hx,hy,zG1]
 by_cases h1:a=c
 ·subst h1
  by_cases h2:b=d
  ·subst h2
   simp only[if_true]
   obtain⟨g1,g2⟩:=B7r s.toList t.toList
   refine⟨g1,?_⟩
   rw[g2]
   simp[C7s]
  ·simp only[if_true,if_neg h2,if_neg (fun e:d=b=>h2 e.symm)]
   have:¬((a,(b,s)):B5d)=(a,(d,t)):=by simp[h2]
   rw[zK this]
   by_cases h3:b<d
   ·simp[h3];omega
   ·have:d<b:=by omega
    simp[h3,this]
 ·simp only[if_neg h1,if_neg (fun e:c=a=>h1 e.symm)]
  have:¬((a,(b,s)):B5d)=(c,(d,t)):=by simp[h1]
  rw[zK this]
  by_cases h3:a<c
  ·simp[h3];omega
  ·have:c<a:=by omega
   simp[h3,this]
def B5e {α S:Type}(f:Nat→α→S→S):Nat→List α→S→S
 |_,[],s=>s
 |k,x::t,s=>B5e f (k+1) t (f k x s)
theorem B8v {α S T:Type}(l:List α)(f:Nat→α→S→S)(L:Nat→Nat→S→T)(R:S→T)(Inv:Nat→S→Prop)(hinv:∀k (h:k<l.length) s,Inv k s→Inv (k+1) (f k l[k] s))
  (hexit:∀j s,Inv l.length s→L (j+1) l.length s=R s) (hstep:∀j k s (h:k<l.length),Inv k s→L (j+1) k s=L j (k+1) (f k l[k] s)):
  ∀(t:List α) (j k:Nat) (s:S),l.drop k=t→k≤l.length→t.length<j→Inv k s→L j k s=R (B5e f k t s)
 |[],j+1,k,s,hd,hk,_,hs=>by
  have:k=l.length:=by
   rcases zE1 k l.length with h'|h'
   ·rw[zC1 h']at hd;cases hd
   ·omega
  subst this;rw[hexit _ _ hs];rfl
 |x::t,j+1,k,s,hd,hk,hj,hs=>by
  obtain⟨h2,h3,h4⟩:=B2z hd x
  have hx:l[k]=x:=by simpa[List.getD,h2]using h3
  rw[hstep j k s h2 hs,B8v l f L R Inv hinv hexit hstep t j (k+1) _ h4 (by omega) (by simp at hj;omega) (hinv k h2 s hs)]
  simp only[B5e,hx]
theorem C6v {α:Type}(i:Nat):∀(t:List α) (k:Nat) (acc:List α),k≤i→B5e (fun k x (s:List α)=>if k=i then s else s++[x]) k t acc=acc++(t.take (i - k)++t.drop (i - k+1))
 |[],k,acc,_=>by simp[B5e]
 |x::t,k,acc,h=>by
  by_cases e:k=i
  ·subst e
   simp only[B5e,if_true,Nat.sub_self,List.take_zero,List.nil_append,List.drop_succ_cons,List.drop_zero]
   have:∀(t:List α) (q:Nat) (acc:List α),k<q→B5e (fun j x (s:List α)=>if j=k then s else s++[x]) q t acc=acc++t:=by
    intro t
    induction t with
    |nil=>intro q acc _;simp[B5e]
    |cons y t ih=>intro q acc hq;simp only[B5e,if_neg (show¬q=k by omega)];rw[ih _ _ (by omega)];simp
   exact this t _ acc (by omega)
  ·simp only[B5e,if_neg e]
   rw[C6v i t (k+1) _ (by omega)]
   obtain⟨d,hd⟩:∃d,i - k=d+1:=⟨i - k - 1,by omega⟩
   rw[hd,show i - (k+1)=d by omega]
   simp
def B2h {α:Type}(l:List α)(i:Nat):List α:=l.take i++l.drop (i+1)
theorem D0n {α:Type}{l:List α}{i:Nat}{x:α}(h:x∈B2h l i):x∈l:=by
 rcases zY.mp h with h|h
 ·exact List.mem_of_mem_take h
 ·exact List.mem_of_mem_drop h
theorem D0m {α:Type}(l:List α)(i:Nat):(B2h l i).length≤l.length:=by simp[B2h];omega
theorem D3a {α:Type}{l:List α}{i:Nat}(h:i<l.length):B1f l (i:Int) ((i+1:Nat):Int)=some (B2h l i):=by
 unfold B1f
 rw[zD (by omega)];rfl
theorem C1p {x:C3}{l:B28}(h:B3p x l=true):∀r∈l,r.length=x.2.1.length:=fun r hr=>B75 ((B7f h).2.2 r hr)
theorem C1q:B5u 1048576 []:=⟨Nat.zero_le _,by simp⟩
theorem B87:∀{x y z:List UInt8},Op.bytesLess x y=true→Op.bytesLess y z=true→Op.bytesLess x z=true
 |_,[],_,h,_=>by cases ‹List UInt8›<;>simp[Op.bytesLess]at h
 |_,_::_,[],_,h=>by simp[Op.bytesLess]at h
 |[],_::_,_::_,_,_=>by simp[Op.bytesLess]
 |a::x,b::y,c::z,h1,h2=>by
  simp only[Op.bytesLess,Bool.or_eq_true,zJ,zG,beq_iff_eq]at h1 h2⊢
  rcases h1 with h1|⟨rfl,h1⟩
  ·rcases h2 with h2|⟨rfl,_⟩
   ·exact .inl (UInt8.lt_trans h1 h2)
   ·exact .inl h1
  ·rcases h2 with h2|⟨rfl,h2⟩
   ·exact .inl h2
   ·exact .inr ⟨rfl,B87 h1 h2⟩
theorem C90 {x y z:B5d}(h1:B4x x y=true)(h2:B4x y z=true):B4x x z=true:=by
 obtain⟨a,b,s⟩:=x;obtain⟨c,d,t⟩:=y;obtain⟨e,f,u⟩:=z
 simp only[B4x,zJ]at h1 h2⊢
 refine⟨⟨h1.1.1,h2.1.2⟩,?_⟩
 have k1:=h1.2;have k2:=h2.2
 by_cases e1:a=c
 ·subst e1
  rw[if_pos rfl]at k1
  by_cases e2:a=e
  ·subst e2
   rw[if_pos rfl]at k2⊢
   by_cases e3:b=d
   ·subst e3
    rw[if_pos rfl]at k1
    by_cases e4:b=f
    ·subst e4;rw[if_pos rfl]at k2⊢;exact B87 k1 k2
    ·rw[if_neg e4]at k2⊢;exact k2
   ·rw[if_neg e3,zG]at k1
    by_cases e4:d=f
    ·subst e4;rw[if_neg e3];exact zD k1
    ·rw[if_neg e4,zG]at k2
     rw[if_neg (by omega)];exact zD (by omega)
  ·rw[if_neg e2]at k2⊢;exact k2
 ·rw[if_neg e1,zG]at k1
  by_cases e2:c=e
  ·subst e2;rw[if_neg e1];exact zD k1
  ·rw[if_neg e2,zG]at k2
   rw[if_neg (by omega)];exact zD (by omega)
def D0x (a:B2w):Prop:=∀v∈a,B41 v.1 v.2.1 v.2.2=true
theorem C5k:∀{a b:B2w},a.length=b.length→D0x a→D0x b→(B2q a b&&B2q b a)=false∧(B2q a b||B2q b a)= !decide (a=b)
 |[],[],_,_,_=>by simp[B2q]
 |[],_::_,h,_,_=>by simp at h
 |_::_,[],h,_,_=>by simp at h
 |x::s,y::t,h,ha,hb=>by
  have ih:=C5k (a:=s) (b:=t) (by simpa using h) (fun v hv=>ha v (zF _ hv)) (fun v hv=>hb v (zF _ hv))
  have hv:=D0h (ha x (zM ..)) (hb y (zM ..))
  simp only[B2q]
  by_cases e:x=y
  ·subst e;simp only[if_true,List.cons.injEq,true_and];exact ih
  ·rw[if_neg e,if_neg (fun h=>e h.symm)]
   refine⟨hv.1,?_⟩
   rw[hv.2,zK e,zK (fun h=>e (List.cons.inj h).1)]
theorem C2r:∀{a b c:B2w},a.length=b.length→b.length=c.length→D0x a→D0x b→D0x c→B2q a b=true→B2q b c=true→B2q a c=true
 |[],[],_,_,_,_,_,_,h,_=>by simp[B2q]at h
 |[],_::_,_,h,_,_,_,_,_,_=>by simp at h
 |_::_,[],_,h,_,_,_,_,_,_=>by simp at h
 |_::_,_::_,[],_,h,_,_,_,_,_=>by simp at h
 |x::s,y::t,z::u,h1,h2,ha,hb,hc,k1,k2=>by
  simp only[B2q]at k1 k2⊢
  by_cases e1:x=y
  ·subst e1
   rw[if_pos rfl]at k1
   by_cases e2:x=z
   ·subst e2
    rw[if_pos rfl]at k2⊢
    exact C2r (by simpa using h1) (by simpa using h2) (fun v hv=>ha v (zF _ hv)) (fun v hv=>hb v (zF _ hv)) (fun v hv=>hc v (zF _ hv)) k1 k2
   ·rw[if_neg e2]at k2⊢;exact k2
  ·rw[if_neg e1]at k1
   by_cases e2:y=z
   ·subst e2;rw[if_neg e1];exact k1
   ·rw[if_neg e2]at k2
    have k3:=C90 k1 k2
    by_cases e3:x=z
    ·subst e3
     have:=(D0h (ha x (zM ..)) (hb y (zM ..))).1
     rw[k1,k2]at this;cases this
    ·rw[if_neg e3];exact k3
theorem C1j {x:C3}(ht:B25 x=true){r:B4h}(hr:B4b x.2.1 r=true):D0x (B2i x.2.1 x.2.2 r):=by
 intro v hv
 simp only[B2i,List.mem_map]at hv
 obtain⟨key,hk,rfl⟩:=hv
 obtain⟨h1,h2,_⟩:=(B79 ht).1 key hk
 simp only[B4b,zJ,zG]at hr
 have hi:(D1 x.2.1 key).toNat<x.2.1.length:=by omega
 have:=(B3t _ _ _).mp hr.2 _ hi
 simp only[zS,B8u]at this
 generalize r.getD (D1 x.2.1 key).toNat B8c=v at this
 revert this
 cases B41 v.1 v.2.1 v.2.2<;>simp
def C1l (x:C3)(r y:B4h):Bool:=B2q (B2i x.2.1 x.2.2 y) (B2i x.2.1 x.2.2 r)
def B6o (x:C3)(l:B28)(r:B4h):B28:=l.takeWhile (C1l x r)++[r]++l.dropWhile (C1l x r)
def B7w (x:C3)(r:B4h)(y:B4h)(s:Bool×B28):Bool×B28:=if s.1=true then(true,s.2++[y])else if B2q (B2i x.2.1 x.2.2 r) (B2i x.2.1 x.2.2 y)=true then(true,s.2++[r]++[y])else(false,s.2++[y])
def C33 (r:B4h)(s:Bool×B28):B28:=if s.1=true then s.2 else s.2++[r]
theorem D0e (x:C3)(r:B4h):∀(t:B28) (k:Nat) (acc:B28),B5e (fun _=>B7w x r) k t (true,acc)=(true,acc++t)
 |[],k,acc=>by simp[B5e]
 |y::t,k,acc=>by
  simp only[B5e,B7w,if_true]
  rw[D0e x r t];simp
theorem lay_all (x:C3)(r:B4h):∀(t:B28) (k:Nat) (acc:B28),(∀y∈t,B2q (B2i x.2.1 x.2.2 r) (B2i x.2.1 x.2.2 y)= !C1l x r y)→C33 r (B5e (fun _=>B7w x r) k t (false,acc))=acc++B6o x t r
 |[],k,acc,_=>by simp[B5e,C33,B6o]
 |y::t,k,acc,h=>by
  have hy:=h y (zM ..)
  simp only[B5e,B7w,Bool.false_eq_true,if_false]
  cases hp:C1l x r y
  ·rw[hp]at hy
   rw[if_pos (by simpa using hy),D0e]
   simp[C33,B6o,List.takeWhile_cons_of_neg (show¬C1l x r y=true by simp[hp]),List.dropWhile_cons_of_neg (show¬C1l x r y=true by simp[hp])]
  ·rw[hp]at hy
   rw[if_neg (by simp[hy]),lay_all x r t _ _ fun z hz=>h z (zF _ hz)]
   simp[B6o,List.takeWhile_cons_of_pos hp,List.dropWhile_cons_of_pos hp]
theorem C77:EV fun n=>∀(x:C3) (l:B28) (r:B4h),B2t 1048576 x→B5u 1048576 l→r.length≤1048576→B25 x=true→(∀y∈l,y.length=x.2.1.length)→r.length=x.2.1.length→
  B9r n x.1 x.2.1 x.2.2 l r=some (C33 r (B5e (fun _=>B7w x r) 0 l (false,[]))):=(B7k.and (B8e.and (C78.and (EV.gt 1048577)))).up fun n ⟨h1,h2,h3,hn⟩ x l r hs hl hr ht hy hr2=>by
 have hll:=hl.1
 simp only[B9r]
 refine B8v l (fun _=>B7w x r) (fun j k (s:Bool×B28)=>B3v n j s.1 l (l.length:Int) (k:Int) x.1 x.2.1 x.2.2 r s.2) (fun s=>some (C33 r s)) (fun k s=>(s.1=false→s.2.length≤k)∧s.2.length≤k+1) (fun k hk s h1=>?_) (fun j s h=>?_) (fun j k s hk ha=>?_) l n 0 (false,[]) rfl (by omega) (by omega) ⟨fun _=>Nat.le_refl 0,Nat.zero_le _⟩
 ·obtain⟨b,acc⟩:=s
  obtain⟨h1,h2⟩:=h1
  cases b
  ·have:=h1 rfl
   simp only[B7w,Bool.false_eq_true,if_false]
   split
   ·refine⟨fun h=>(by cases h),?_⟩
    simp;dsimp only at this;omega
   ·refine⟨fun _=>?_,?_⟩<;>(simp;dsimp only at this;omega)
  ·simp only[B7w,if_true]
   refine⟨fun h=>(by cases h),?_⟩
   simp;dsimp only at h2;omega
 ·obtain⟨h0,h⟩:=h
  have r3:room (s.2.length+[r].length) 24=true:=by simp only[room,zG,zW,zX];omega
  simp only[B3v,D3,zP,zH,zA,h3 r hr,zC,r3,zB,C33]
  cases s.1<;>rfl
 ·obtain⟨_,ha⟩:=ha
  have e:=h3 l[k] (hl.2 _ (zL hk)).1
  have e2:=h2 (B2i x.2.1 x.2.2 r) (B2i x.2.1 x.2.2 l[k]) (by rw[B63];exact hs.2.2.1)
  have r3:∀y:B2w,room (s.2.length+[y].length) 24=true:=fun y=>by simp only[room,zG,zW,zX];omega
  have r4:∀y z:B2w,room ((s.2++[y]).length+[z].length) 24=true:=fun y z=>by simp only[room,zG,List.length_append,zW,zX];omega
  simp only[B3v,D3,zD hk,D4 hk,zE,getD_at hk,zB,R2 hk (by omega),e,h3 r hr,h1 x r hs ht hr2,h1 x l[k] hs ht (hy _ (zL hk)),e2,zC,r3,r4,B7w]
  obtain⟨b,acc⟩:=s
  cases b
  ·cases B2q (B2i x.2.1 x.2.2 r) (B2i x.2.1 x.2.2 l[k])<;>rfl
  ·rfl
theorem D0d {α:Type}(p:α→Bool):∀(l:List α) (k:Nat),idxFrom p l k= -1↔∀y∈l,p y=false
 |[],k=>by simp[idxFrom]
 |x::t,k=>by
  simp only[idxFrom,List.mem_cons,forall_eq_or_imp]
  by_cases h:p x=true
  ·rw[if_pos h]
   constructor
   ·intro e;omega
   ·intro e;rw[e.1]at h;cases h
  ·rw[if_neg h,D0d p t (k+1)]
   simp at h
   simp[h]
theorem C6e {α:Type}(p:α→Bool)(l:List α):¬0≤idx p l↔∀y∈l,p y=false:=by
 rw[←D0d p l 0]
 have:=(C0b p l).1
 unfold idx at this⊢
 omega
theorem D0z {x:C3}{l:B28}{r:B4h}(ht:B25 x=true)(hl:∀y∈l,B4b x.2.1 y=true)(hr:B4b x.2.1 r=true)(hk:∀y∈l,B2i x.2.1 x.2.2 y≠B2i x.2.1 x.2.2 r):
  C33 r (B5e (fun _=>B7w x r) 0 l (false,[]))=B6o x l r:=by
 rw[lay_all x r l 0 [] fun y hy=>?_]
 ·rfl
 ·obtain⟨h1,h2⟩:=C5k (a:=B2i x.2.1 x.2.2 y) (b:=B2i x.2.1 x.2.2 r) (by rw[B63,B63]) (C1j ht (hl y hy)) (C1j ht hr)
  rw[zK (hk y hy)]at h2
  unfold C1l
  revert h1 h2
  cases B2q (B2i x.2.1 x.2.2 y) (B2i x.2.1 x.2.2 r)<;>cases B2q (B2i x.2.1 x.2.2 r) (B2i x.2.1 x.2.2 y)<;>simp
theorem D11 {x:C3}{l:B28}{r y:B4h}(h:y∈B6o x l r):y∈l∨y=r:=by
 unfold B6o at h
 simp only[zY,zF1]at h
 rcases h with(h|h)|h
 ·exact .inl (by rw[←List.takeWhile_append_dropWhile (p:=C1l x r) (l:=l)];exact zZ _ h)
 ·exact .inr h
 ·exact .inl (by rw[←List.takeWhile_append_dropWhile (p:=C1l x r) (l:=l)];exact zA1 _ h)
theorem D10 (x:C3)(l:B28)(r:B4h):(B6o x l r).length=l.length+1:=by
 have:=congrArg List.length (List.takeWhile_append_dropWhile (p:=C1l x r) (l:=l))
 simp only[List.length_append]at this
 simp[B6o];omega
def C9p (x:C3)(l:B28)(key:B2w):Int:=idx (fun r=>decide (B2i x.2.1 x.2.2 r=key)) l
def C47 (x:C3)(l:B28)(r:B4h):B28×(Int×Unit):=
 if B3p x l=true then(if B4b x.2.1 r=true then(if 0≤C9p x l (B2i x.2.1 x.2.2 r)then([],(3,()))else if l.length=60 then([],(4,()))else(B6o x l r,(0,())))else([],(2,())))else([],(1,()))
theorem D2e {x:C3}{l:B28}{key:B2w}(h:¬0≤C9p x l key):∀y∈l,B2i x.2.1 x.2.2 y≠key:=fun y hy e=>by
 have:=(C6e _ _).mp h y hy
 rw[zD e]at this;cases this
theorem C74:EV fun n=>∀(x:C3) (l:B28) (r:B4h),B2t 1048576 x→B5u 1048576 l→r.length≤1048576→B9h n x.1 x.2.1 x.2.2 l r=some (C47 x l r):=(B97.and (C2u.and (B7k.and (C8b.and C77)))).up fun n ⟨h1,h2,h3,h4,h5⟩ x l r hs hl hrl=>by
 simp only[B9h,h1 x l hs hl.1,h2 x r hs,zC,C47,B2r]
 cases hr:B3p x l
 ·simp
 have ht:=(B7f hr).1
 simp only[zT,zA,if_true,ht,zG1]
 cases hi:B4b x.2.1 r
 ·simp
 simp only[zT,zA,if_true,h3 x r hs ht (B75 hi),h4 x l _ hs hl.1,zC,D0q,hr]
 rw[show idx (fun y=>decide (B2i x.2.1 x.2.2 y=B2i x.2.1 x.2.2 r)) l=C9p x l (B2i x.2.1 x.2.2 r)from rfl]
 by_cases c:0≤C9p x l (B2i x.2.1 x.2.2 r)
 ·rw[zD c,if_pos c];rfl
 ·rw[zK c,if_neg c]
  by_cases c2:l.length=60
  ·rw[zD (by omega),if_pos c2];rfl
  ·rw[zK (by omega),if_neg c2,h5 x l r hs hl hrl ht (C1p hr) (B75 hi),D0z ht (B7f hr).2.2 hi (D2e c)];rfl
theorem D0i {x:C3}{l:B28}(h:B3p x l=true):∀i j (hi:i<j) (hj:j<l.length),B2q (B2i x.2.1 x.2.2 l[i]) (B2i x.2.1 x.2.2 l[j])=true:=by
 obtain⟨ht,_,hin⟩:=B7f h
 simp only[B3p,zJ]at h
 have hstep:∀k (hk:k+1<l.length),B2q (B2i x.2.1 x.2.2 l[k]) (B2i x.2.1 x.2.2 l[k+1])=true:=fun k hk=>by
  have:=(B3t _ _ _).mp h.2 (k+1) hk
  simp only[zS,B2u,zJ,Nat.add_sub_cancel,getD_at (show k<l.length by omega)]at this
  simpa using this.2
 intro i j hi
 induction j with
 |zero=>omega
 |succ j ih=>
  intro hj
  by_cases e:i=j
  ·subst e;exact hstep i hj
  ·have k1:=ih (by omega) (by omega)
   have hv:∀q (hq:q<l.length),D0x (B2i x.2.1 x.2.2 l[q]):=fun q hq=>C1j ht (hin _ (zL hq))
   exact C2r (by rw[B63,B63]) (by rw[B63,B63]) (hv _ _) (hv _ _) (hv _ _) k1 (hstep j hj)
theorem C70 {x:C3}{l:B28}(ht:B25 x=true)(hl:l.length≤60)(hin:∀r∈l,B4b x.2.1 r=true)(hs:∀k (hk:k+1<l.length),B2q (B2i x.2.1 x.2.2 l[k]) (B2i x.2.1 x.2.2 l[k+1])=true):B3p x l=true:=by
 simp only[B3p,ht,zD hl,zG1]
 refine(B3t _ _ _).mpr fun i hi=>?_
 simp only[zS,B2u,hin _ (zL hi),zG1,Bool.or_eq_true,zG]
 cases i with
 |zero=>exact .inl rfl
 |succ i=>
  right
  rw[Nat.add_sub_cancel,getD_at (show i<l.length by omega)]
  exact hs i hi
theorem B84 {α:Type}{l:List α}{i j:Nat}(hj:j<(B2h l i).length):∃(h:(if j<i then j else j+1)<l.length),(B2h l i)[j]=l[(if j<i then j else j+1)]:=by
 have hl:(B2h l i).length=min i l.length+(l.length - (i+1)):=by simp[B2h]
 by_cases c:j<i
 ·rw[if_pos c]
  refine⟨by omega,?_⟩
  simp only[B2h]
  rw[List.getElem_append_left (by simp;omega),List.getElem_take]
 ·rw[if_neg c]
  refine⟨by omega,?_⟩
  simp only[B2h]
  rw[List.getElem_append_right (by simp;omega),List.getElem_drop]
  congr 1;simp;omega
theorem D0w {α:Type}(p:α→Bool):∀(l:List α) (k i:Nat),idxFrom p l k=((k+i:Nat):Int)→∃h:i<l.length,p l[i]=true
 |[],k,i,h=>by simp only[idxFrom]at h;omega
 |x::t,k,i,h=>by
  simp only[idxFrom]at h
  split at h
  ·rename_i hp
   obtain rfl:i=0:=by omega
   exact⟨by simp,hp⟩
  ·rcases C57 p t (k+1)with e|e
   ·omega
   ·obtain⟨i,rfl⟩:∃i',i=i'+1:=⟨i - 1,by omega⟩
    obtain⟨h1,h2⟩:=D0w p t (k+1) i (by rw[h];congr 1;omega)
    exact⟨by simp;exact h1,by simpa using h2⟩
theorem C49 {α:Type}{p:α→Bool}{l:List α}(h:∃y∈l,p y=true):0≤idx p l:=by
 by_cases c:0≤idx p l
 ·exact c
 ·obtain⟨y,hy,hp⟩:=h
  rw[(C6e p l).mp c y hy]at hp;cases hp
def B92 (a b:ByteArray):Bool:=Op.bytesLess a.toList b.toList
theorem D1n (a:ByteArray):B92 a a=false:=by
 have:=(B7r a.toList a.toList).1
 rwa[Bool.and_self]at this
theorem D1o {a b:ByteArray}(h:B92 a b=false)(hne:a≠b):B92 b a=true:=by
 have:=(B7r a.toList b.toList).2
 have e:¬a.toList=b.toList:=fun e=>hne (by rw[C7s]at e;exact e)
 simp only[B92]at h⊢
 rw[h,Bool.false_or,zK e]at this
 exact this
theorem D0g {a b c:ByteArray}(h:B92 a b=true)(h2:B92 b c=true):B92 a c=true:=B87 h h2
theorem D0f {a b:ByteArray}(h:B92 a b=true):B92 b a=false:=by
 cases h2:B92 b a
 ·rfl
 ·have:=D0g h h2
  rw[D1n]at this;cases this
def C6w (l:List ByteArray)(s:ByteArray):Bool:=l.any fun x=>decide (x=s)
theorem D0c (l:List ByteArray)(s:ByteArray):C6w l s=true↔s∈l:=by
 simp only[C6w,List.any_eq_true,zG]
 exact⟨fun⟨x,h,e⟩=>e▸h,fun h=>⟨s,h,rfl⟩⟩
def tAt (l:B2c)(s:ByteArray):Int:=idx (fun t:C3=>decide (t.1=s)) l
theorem D2i {l:B2c}{s:ByteArray}:0≤tAt l s↔∃t∈l,t.1=s:=by
 constructor
 ·intro h
  refine Classical.byContradiction fun hn=>?_
  refine(C6e (fun t:C3=>decide (t.1=s)) l).mpr (fun t ht=>?_) h
  exact zK fun e=>hn ⟨t,ht,e⟩
 ·rintro⟨t,ht,e⟩
  exact C49 ⟨t,ht,zD e⟩
theorem C5e (l:B2c)(s:ByteArray):tAt l s<0∨∃k:Nat,tAt l s=(k:Int)∧k<l.length:=by
 obtain⟨b1,b2⟩:=C0b (fun t:C3=>decide (t.1=s)) l
 rw[show idx (fun t:C3=>decide (t.1=s)) l=tAt l s from rfl]at b1 b2
 by_cases c:0≤tAt l s
 ·obtain⟨k,e⟩:=Int.eq_ofNat_of_zero_le c
  exact .inr ⟨k,e,by omega⟩
 ·exact .inl (by omega)
theorem B94:EV fun n=>∀(l:List ByteArray) (s:ByteArray),l.length≤1048576→B31 n l s=some (idx (fun x=>decide (s=x)) l):=(EV.gt 1048577).up fun n hn l s hl=>by
 rw[B31]
 refine B74 (fun x=>decide (s=x)) l (fun j k=>B2n n j l s (l.length:Int) (k:Int)) (fun j=>?_) (fun j k hk=>?_) l n 0 rfl (by omega) (by omega)
 ·simp only[B2n,D3,zP,zH,zA]
 ·simp only[B2n,D3,zD hk,D4 hk,zE,getD_at hk,zB,R2 hk (by omega),B3q]
  exact B7p _ _
theorem D1z (l:List ByteArray)(s:ByteArray):decide ((0:Int)≤idx (fun x=>decide (s=x)) l)=C6w l s:=by
 rw[idx,D18]
 simp only[C6w]
 congr 1
 funext x
 rw[decide_eq_decide]
 exact⟨fun h=>h.symm,fun h=>h.symm⟩
theorem C0w:EV fun n=>∀(l:List ByteArray) (s:ByteArray),l.length≤1048576→C1 n l s=some (C6w l s):=B94.up fun n h l s hl=>by
 simp only[C1,h l s hl,zC,D1z]
theorem C75:EV fun n=>∀(l:List ByteArray) (s:ByteArray),l.length≤1048576→B9o n l s=some (C6w l s):=(EV.gt 1048577).up fun n hn l s hl=>by
 rw[B9o]
 have key:∀(t:List ByteArray) (j k:Nat),l.drop k=t→k≤l.length→t.length<j→B5j n j s l (l.length:Int) (k:Int)=some (C6w t s):=by
  intro t
  induction t with
  |nil=>
   intro j k hdr hk hj
   obtain⟨j,rfl⟩:∃i,j=i+1:=⟨j - 1,by simp at hj;omega⟩
   have:k=l.length:=by
    rcases zE1 k l.length with h'|h'
    ·rw[zC1 h']at hdr;cases hdr
    ·omega
   subst this
   simp only[B5j,D3,zP,zH,zA];rfl
  |cons x t ih=>
   intro j k hdr hk hj
   obtain⟨j,rfl⟩:∃i,j=i+1:=⟨j - 1,by simp at hj;omega⟩
   obtain⟨h2,h3,h4⟩:=B2z hdr E0
   rw[getD_at h2]at h3
   simp only[B5j,D3,zD h2,D4 h2,zE,getD_at h2,h3,zB,R2 h2 (by omega),B3q]
   rw[ih j (k+1) h4 (by omega) (by simp at hj;omega)]
   simp only[C6w,List.any_cons]
   cases decide (x=s)<;>rfl
 exact key l n 0 rfl (by omega) (by omega)
def B3k (x:C3)(d:B2g):Int:=
 if d.1=3 then(if 0≤D1 x.2.1 (d.2.2.1.getD 0 CZ).1 then 5 else if x.2.1.length=8 then 6 else 0)else
 if d.1=4 then(if D1 x.2.1 d.2.2.2.2.1<0 then 7 else if C6w x.2.2 d.2.2.2.2.1=true then 8 else 0)else
 if d.1=5 then(if 0≤D1 x.2.1 d.2.2.2.2.2 then 5 else if D1 x.2.1 d.2.2.2.2.1<0 then 7 else 0)else 0
theorem B9b {p:Prop} [Decidable p]{α:Type}(x y:α):(bif decide p then x else y)=if p then x else y:=by by_cases h:p<;>simp[h]
theorem C5d:EV fun n=>∀(x:C3) (d:B2g),B2t 1048576 x→B3d d=true→B7y n x.1 x.2.1 x.2.2 d.1 d.2.1 d.2.2.1 d.2.2.2.1 d.2.2.2.2.1 d.2.2.2.2.2=some (B3k x d):=(B6z.and C75).up fun n ⟨h1,h2⟩ x d hs hd=>by
 have hc:=hs.2.1.1
 have hk:=hs.2.2.1
 simp only[B7y,h1 _ _ _ _ hc,h2 _ _ hk,zC,B2r,B3k]
 by_cases k3:d.1=3
 ·obtain⟨c,hcs,_⟩:=B9c hd k3
  simp only[k3,zI,zB,if_true,hcs,List.length_singleton,D1l,Int.toNat_zero,List.getD_cons_zero,B9b]
  split
  ·rfl
  ·by_cases h8:x.2.1.length=8
   ·rw[if_pos (by omega),if_pos h8]
   ·rw[if_neg (by omega),if_neg h8]
 by_cases k4:d.1=4
 ·simp only[k4,show¬(4:Int)=3 by decide,zH,zI,zB,zA,if_true,if_false,B9b]
  split
  ·rfl
  ·cases C6w x.2.2 d.2.2.2.2.1<;>rfl
 by_cases k5:d.1=5
 ·simp only[k5,show¬(5:Int)=3 by decide,show¬(5:Int)=4 by decide,zH,zI,zB,zA,if_true,if_false,B9b]
  split
  ·rfl
  ·split<;>rfl
 ·simp only[k3,k4,k5,zH,zA,if_false]
def C0q (l:B2c)(d:B2g):Int:=
 if d.1=1 then(if 0≤tAt l d.2.1 then 2 else if l.length=6 then 3 else 0)else
 if tAt l d.2.1<0 then 4 else B3k (l.getD (tAt l d.2.1).toNat C4b) d
theorem C0r:EV fun n=>∀(l:B2c) (d:B2g),B64 1048576 l→B3d d=true→B7e n l d.1 d.2.1 d.2.2.1 d.2.2.2.1 d.2.2.2.2.1 d.2.2.2.2.2=some (C0q l d):=(C1h.and (B6y.and C0w)).up fun n ⟨h1,h2,h3⟩ l d hs hd=>by
 have e:=h1 l d.2.1 hs.1
 rw[show idx (fun t:C3=>decide (t.1=d.2.1)) l=tAt l d.2.1 from rfl]at e
 simp only[B7e,e,zC,B2r,C0q]
 by_cases k1:d.1=1
 ·simp only[k1,zI,zB,if_true,B9b]
  split
  ·rfl
  ·by_cases h8:l.length=6
   ·rw[if_pos (by omega),if_pos h8]
   ·rw[if_neg (by omega),if_neg h8]
 rcases C5e l d.2.1 with c|⟨i,ei,hi⟩
 ·simp only[k1,zH,zA,if_false,zD c,zB,if_pos c]
 have z:¬((i:Int)<0):=by omega
 simp only[ei,k1,zH,zA,if_false,zK z,if_neg z,D4 hi,zB,zE,getD_at hi]
 have hx:=hs.2 _ (zL hi)
 generalize l[i]=x at hx
 have hc:=hx.2.1.1
 have hk:=hx.2.2.1
 have h2':∀s,B29 n x.1 x.2.1 x.2.2 s=some (D1 x.2.1 s):=fun s=>h2 _ _ _ _ hc
 simp only[h2',h3 _ _ hk,zC,B3k]
 by_cases k3:d.1=3
 ·obtain⟨c,hcs,_⟩:=B9c hd k3
  simp only[k3,zI,zB,if_true,hcs,List.length_singleton,D1l,Int.toNat_zero,List.getD_cons_zero,B9b,show¬(3:Int)=5 by decide,show¬(3:Int)=4 by decide,if_false]
  split
  ·rfl
  ·by_cases h8:x.2.1.length=8
   ·rw[if_pos (by omega),if_pos h8]
   ·rw[if_neg (by omega),if_neg h8]
 by_cases k4:d.1=4
 ·simp only[k4,show¬(4:Int)=3 by decide,show¬(4:Int)=5 by decide,zH,zI,zB,zA,if_true,if_false,B9b]
  split
  ·rfl
  ·cases C6w x.2.2 d.2.2.2.2.1<;>rfl
 by_cases k5:d.1=5
 ·simp only[k5,show¬(5:Int)=3 by decide,show¬(5:Int)=4 by decide,zH,zI,zB,zA,if_true,if_false,B9b]
  split
  ·rfl
  ·split<;>rfl
 ·simp only[k3,k4,k5,zH,zA,if_false]
theorem C61:EV fun n=>∀l:B2c,B64 1048576 l→B8m n l=some l:=(C04.and (EV.gt 1048577)).up fun n ⟨h,hn⟩ l hs=>by
 have hl:=hs.1
 simp only[B8m]
 refine(C02 l id (fun j k acc=>B4t n j l (l.length:Int) (k:Int) [] acc) (fun j acc=>?_) (fun j k acc hk ha=>?_) l n 0 [] rfl (by omega) (by omega) rfl).trans (by simp)
 ·simp only[B4t,D3,zP,zH,zA]
 ·have e:=h l[k] (hs.2 _ (zL hk))
  have r3:∀x:C3,room (acc.length+[x].length) 64=true:=fun x=>by simp only[room,zG,zW,zX];omega
  simp only[B4t,D3,zD hk,D4 hk,zE,getD_at hk,zB,R2 hk (by omega),e,zC,r3,id]
theorem C5z:EV fun n=>∀l:B2c,B64 1048576 l→B8k n l=some l:=(B9e.and (EV.gt 1048577)).up fun n ⟨h,hn⟩ l hs=>by
 have hl:=hs.1
 simp only[B8k]
 refine(C02 l id (fun j k acc=>B4s n j l (l.length:Int) (k:Int) [] acc) (fun j acc=>?_) (fun j k acc hk ha=>?_) l n 0 [] rfl (by omega) (by omega) rfl).trans (by simp)
 ·simp only[B4s,D3,zP,zH,zA]
 ·have e:=h l[k] (hs.2 _ (zL hk))
  have r3:∀x:C3,room (acc.length+[x].length) 64=true:=fun x=>by simp only[room,zG,zW,zX];omega
  simp only[B4s,D3,zD hk,D4 hk,zE,getD_at hk,zB,R2 hk (by omega),e,zC,r3,id]
def B93 (t:C3):B2c→B2c
 |[]=>[t]
 |x::l=>if B92 t.1 x.1=true then t::x::l else x::B93 t l
def C6z (t:C3):B2c→Bool→B2c→B2c
 |[],d,acc=>if d=true then acc else acc++[t]
 |x::l,d,acc=>if d=false∧B92 t.1 x.1=true then C6z t l true (acc++[t]++[x])else C6z t l d (acc++[x])
theorem C97 (t:C3):∀(l:B2c) (acc:B2c),C6z t l true acc=acc++l
 |[],acc=>by simp[C6z]
 |x::l,acc=>by
  simp only[C6z,Bool.true_eq_false,false_and,if_false]
  rw[C97 t l];simp
theorem D1b (t:C3):∀(l:B2c) (acc:B2c),C6z t l false acc=acc++B93 t l
 |[],acc=>by simp[C6z,B93]
 |x::l,acc=>by
  simp only[C6z,true_and,B93]
  split
  ·rw[C97];simp
  ·rw[D1b t l];simp
theorem C76:EV fun n=>∀(l:B2c) (x:C3),l.length≤1048576→B9p n l x.1 x.2.1 x.2.2=some (B93 x l):=(EV.gt 1048577).up fun n hn l x hl=>by
 have key:∀(t:B2c) (j k:Nat) (d:Bool) (acc:B2c),l.drop k=t→k≤l.length→t.length<j→acc.length≤k+d.toNat→
   B3u n j d l (l.length:Int) (k:Int) x.1 x.2.1 x.2.2 [] acc=some (C6z x t d acc):=by
  intro t
  induction t with
  |nil=>
   intro j k d acc hdr hk hj ha
   obtain⟨j,rfl⟩:∃i,j=i+1:=⟨j - 1,by simp at hj;omega⟩
   have:k=l.length:=by
    rcases zE1 k l.length with h'|h'
    ·rw[zC1 h']at hdr;cases hdr
    ·omega
   subst this
   have hd1:d.toNat≤1:=by cases d<;>decide
   have r:room (acc.length+[x].length) 64=true:=by simp only[room,zG,zW,zX];omega
   simp only[B3u,D3,zP,zH,zA,C6z]
   rw[show [(x.1,(x.2.1,x.2.2))]=[x]from rfl,r]
   cases d<;>rfl
  |cons y t ih=>
   intro j k d acc hdr hk hj ha
   obtain⟨j,rfl⟩:∃i,j=i+1:=⟨j - 1,by simp at hj;omega⟩
   obtain⟨h2,h3,h4⟩:=B2z hdr C4b
   rw[getD_at h2]at h3
   have hd1:d.toNat≤1:=by cases d<;>decide
   have hj':t.length<j:=by simp at hj;omega
   have r1:room (acc.length+[x].length) 64=true:=by simp only[room,zG,zW,zX];omega
   have r2:room ((acc++[x]).length+[y].length) 64=true:=by simp only[room,zG,List.length_append,zW,zX];omega
   have r3:room (acc.length+[y].length) 64=true:=by simp only[room,zG,zW,zX];omega
   simp only[B3u,D3,zD h2,D4 h2,zE,getD_at h2,h3,zB,R2 h2 (by omega),C6z]
   rw[show [(x.1,(x.2.1,x.2.2))]=[x]from rfl,show [(y.1,(y.2.1,y.2.2))]=[y]from rfl,r1,r2,r3]
   simp only[zB]
   have i1:=ih j (k+1) d (acc++[y]) h4 (by omega) hj'
   cases d
   ·simp only[zU,zB,true_and]
    cases c:B92 x.1 y.1
    ·rw[show Op.bytesLess x.1.toList y.1.toList=false from c,zA,if_neg (by simp)]
     exact i1 (by simp at ha⊢;omega)
    ·rw[show Op.bytesLess x.1.toList y.1.toList=true from c,zB,if_pos rfl]
     exact ih j (k+1) true (acc++[x]++[y]) h4 (by omega) hj' (by simp at ha⊢;omega)
   ·simp only[zT,zA,Bool.true_eq_false,false_and,if_false]
    exact i1 (by simp at ha⊢;omega)
 simp only[B9p]
 refine(key l n 0 false [] rfl (by omega) (by omega) (by simp)).trans ?_
 rw[D1b];rfl
def B5x (d:B2g)(c:B3n):B3n:=if d.1=5∧c.1=d.2.2.2.2.1 then(d.2.2.2.2.2,c.2)else c
def B3h (d:B2g)(k:ByteArray):ByteArray:=if d.1=5∧k=d.2.2.2.2.1 then d.2.2.2.2.2 else k
def C6r (d:B2g)(c:B3n):Bool:=decide (d.1=4)&&decide (c.1=d.2.2.2.2.1)
def B2j (x:C3)(d:B2g):C3:=(x.1,((x.2.1.filter fun c=> !C6r d c).map (B5x d)++(if d.1=3 then [d.2.2.1.getD 0 CZ]else []),x.2.2.map (B3h d)))
theorem B8a {α β:Type}(p:α→Bool)(f:α→β):∀(l:List α) (k:Nat) (acc:List β),B5e (fun _ x s=>if p x=true then s else s++[f x]) k l acc=acc++(l.filter fun x=> !p x).map f
 |[],k,acc=>by simp[B5e]
 |x::l,k,acc=>by
  simp only[B5e]
  rw[B8a p f l]
  by_cases c:p x=true
  ·simp[c]
  ·simp[c]
theorem C4c:EV fun n=>∀(x:C3) (d:B2g),B2t 1048576 x→B3d d=true→B7j n x.1 x.2.1 x.2.2 d.1 d.2.1 d.2.2.1 d.2.2.2.1 d.2.2.2.2.1 d.2.2.2.2.2=some (B2j x d):=(EV.gt 1048577).up fun n hn x d hs hd=>by
 have hcl:=hs.2.1.1
 have hkl:=hs.2.2.1
 have hL2:∀(cs:B26),cs.length≤1048576→∀(t:List ByteArray) (j k:Nat) (s:List ByteArray),s.drop k=t→k≤s.length→t.length<j→s.length≤1048576→
   B36 n j (s.length:Int) (k:Int) d.1 d.2.1 d.2.2.1 d.2.2.2.1 d.2.2.2.2.1 d.2.2.2.2.2 E0 [] [] x.1 cs s=some (x.1,(cs++(if d.1=3 then [d.2.2.1.getD 0 CZ]else []),s.take k++t.map (B3h d))):=by
  intro cs hcs t
  induction t with
  |nil=>
   intro j k s hdr hk hj hsl
   obtain⟨j,rfl⟩:∃i,j=i+1:=⟨j - 1,by simp at hj;omega⟩
   have:k=s.length:=by
    rcases zE1 k s.length with h'|h'
    ·rw[zC1 h']at hdr;cases hdr
    ·omega
   subst this
   simp only[B36,D3,zP,zH,zA,B2r,List.take_length,List.map_nil,zH1]
   by_cases k3:d.1=3
   ·obtain⟨c,hc,_⟩:=B9c hd k3
    simp only[k3,hc,zI,zB,if_true,List.length_singleton,D1l,Int.toNat_zero,List.getD_cons_zero]
    have r':room (cs.length+1) 64=true:=by simp only[room,zG];omega
    rw[show [(c.1,(c.2.1,(c.2.2.1,(c.2.2.2.1,(c.2.2.2.2.1,(c.2.2.2.2.2.1,c.2.2.2.2.2.2))))))]=[c]from rfl,r'];rfl
   ·simp only[k3,zH,zA,if_false,zH1]
  |cons y t ih=>
   intro j k s hdr hk hj hsl
   obtain⟨j,rfl⟩:∃i,j=i+1:=⟨j - 1,by simp at hj;omega⟩
   obtain⟨h2,h3,h4⟩:=B2z hdr E0
   rw[getD_at h2]at h3
   have hj':t.length<j:=by simp at hj;omega
   simp only[B36,D3,zD h2,D4 h2,zE,getD_at h2,h3,zB,R2 h2 (by omega),B2r,B3q]
   have hset:∀z:ByteArray,(s.set k z).take (k+1)=s.take k++[z]:=fun z=>by
    rw[List.take_add_one,List.take_set_of_le (by omega),List.getElem?_set_self h2];rfl
   have htk:s.take (k+1)=s.take k++[y]:=by rw[List.take_add_one,List.getElem?_eq_getElem h2,h3];rfl
   by_cases k5:d.1=5
   ·by_cases e:y=d.2.2.2.2.1
    ·have:=ih j (k+1) (s.set k d.2.2.2.2.2) (by rw[List.drop_set_of_lt (by omega)];exact h4) (by simp;omega) hj' (by simpa using hsl)
     rw[List.length_set,hset]at this
     simp only[k5,e,zI,zB,List.map_cons,B3h,and_self,if_true]at this⊢
     rw[this];simp[B3h]
    ·have:=ih j (k+1) s h4 (by omega) hj' hsl
     rw[htk]at this
     simp only[k5,e,zI,zH,zB,zA,List.map_cons,B3h,and_false,if_false]at this⊢
     rw[this];simp[B3h]
   ·have:=ih j (k+1) s h4 (by omega) hj' hsl
    rw[htk]at this
    simp only[k5,zH,zA,List.map_cons,B3h,false_and,if_false]at this⊢
    rw[this];simp[B3h]
 have r1:room (([]:List ByteArray).length+x.2.2.length) 16=true:=by simp only[room,zG,zX];omega
 simp only[B7j,r1,zB,List.nil_append]
 refine(B8v x.2.1 (fun _ c s=>if C6r d c=true then s else s++[B5x d c]) (fun j k acc=>B2l n j x.2.1 (x.2.1.length:Int) (k:Int) d.1 d.2.1 d.2.2.1 d.2.2.2.1 d.2.2.2.2.1 d.2.2.2.2.2 E0 [] [] x.1 acc x.2.2)
  (fun acc=>some (x.1,(acc++(if d.1=3 then [d.2.2.1.getD 0 CZ]else []),x.2.2.map (B3h d)))) (fun k s=>s.length≤k) (fun k hk s h=>?_) (fun j acc hacc=>?_) (fun j k acc hk hacc=>?_) x.2.1 n 0 [] rfl (by omega) (by omega) (Nat.le_refl 0)).trans ?_
 ·split
  ·omega
  ·rw[List.length_append];simp only[zW,zX];omega
 ·simp only[B2l,D3,zP,zH,zA]
  have:=hL2 acc (by omega) x.2.2 n 0 x.2.2 rfl (by omega) (by omega) hkl
  rw[List.take_zero,List.nil_append]at this
  exact this
 ·have r:∀c:B3n,room (acc.length+[c].length) 64=true:=fun c=>by simp only[room,zG,zW,zX];omega
  simp only[B2l,D3,zD hk,D4 hk,zE,getD_at hk,zB,R2 hk (by omega),B2r,B3q,C6r,B5x]
  generalize x.2.1[k]=c
  simp only[r,zB]
  by_cases k4:d.1=4
  ·by_cases e:c.1=d.2.2.2.2.1
   ·simp only[k4,e,zI,zB,Bool.and_self,if_true]
   ·simp only[k4,e,zI,zH,zB,zA,Bool.and_false,Bool.false_eq_true,if_false,show¬(4:Int)=5 by decide,false_and]
  ·by_cases k5:d.1=5
   ·by_cases e:c.1=d.2.2.2.2.1
    ·simp only[k5,e,show¬(5:Int)=4 by decide,zH,zI,zB,zA,Bool.false_and,Bool.false_eq_true,if_false,and_self,if_true]
    ·simp only[k5,e,show¬(5:Int)=4 by decide,zH,zI,zB,zA,Bool.false_and,Bool.false_eq_true,if_false,and_false]
   ·simp only[k4,k5,zH,zA,Bool.false_and,Bool.false_eq_true,if_false,false_and]
 ·rw[B8a];rfl
def B7b (l:B2c)(d:B2g):B2c:=
 if d.1=1 then B93 (d.2.1,(d.2.2.1,d.2.2.2.1)) l else
 if d.1=2 then B2h l (tAt l d.2.1).toNat else l.set (tAt l d.2.1).toNat (B2j (l.getD (tAt l d.2.1).toNat C4b) d)
def C06 (l:B2c)(d:B2g):B2c×(Int×Unit):=
 if B88 l=true∧B3d d=true then(if C0q l d=0 then(B7b l d,(0,()))else([],(C0q l d,())))else([],(1,()))
theorem C5c:EV fun n=>∀(l:B2c) (d:B2g),B64 1048576 l→B7g 1048576 d→B7x n l d.1 d.2.1 d.2.2.1 d.2.2.2.1 d.2.2.2.2.1 d.2.2.2.2.2=some (C06 l d):=(C8a.and (C2t.and (C8c.and (C61.and (C04.and (C76.and (C5d.and C4c))))))).up fun n ⟨h1,h2,h3,h4,h5,h6,h7,h8⟩ l d hl hd=>by
 have e3:=h3 l d.2.1 hl.1
 rw[show idx (fun t:C3=>decide (t.1=d.2.1)) l=tAt l d.2.1 from rfl]at e3
 simp only[B7x,h1 l hl,h2 d hd,e3,h4 l hl,zC,C06,B2r,B6q]
 cases hc:B88 l
 ·simp
 cases hk:B3d d
 ·simp
 have hlen:=(B9z hc).1
 simp only[zT,zA,and_self,if_true]
 have hbig:=hl.1
 by_cases k1:d.1=1
 ·have e5:=h5 (d.2.1,(d.2.2.1,d.2.2.2.1)) ⟨hd.1,hd.2.1,hd.2.2.1⟩
  have e6:=h6 l (d.2.1,(d.2.2.1,d.2.2.2.1)) hbig
  dsimp only at e5 e6
  simp only[k1,zI,zB,e5,e6,zC,C0q,B7b,if_true,B9b]
  by_cases c:0≤tAt l d.2.1
  ·simp only[if_pos c];rfl
  ·simp only[if_neg c]
   by_cases h6':l.length=6
   ·rw[if_pos (by omega),if_pos h6'];rfl
   ·rw[if_neg (by omega),if_neg h6'];rfl
 simp only[k1,zH,zA,C0q,B7b,if_false]
 rcases C5e l d.2.1 with c|⟨i,ei,hi⟩
 ·simp only[zD c,zB,if_pos c];rfl
 have z:¬((i:Int)<0):=by omega
 have e7:=h7 l[i] d (hl.2 _ (zL hi)) hk
 have e8:=h8 l[i] d (hl.2 _ (zL hi)) hk
 simp only[ei,zK z,zA,D4 hi,zB,zE,getD_at hi,e7,e8,zC,if_neg z]
 by_cases cf:B3k l[i] d=0
 ·simp only[cf,zI,zT,zA,if_true]
  by_cases k2:d.1=2
  ·have w:IntKind.wrap .i64 ((i:Int)+1)=((i+1:Nat):Int):=R2 hi (by omega)
   have q1:decide (0≤((0:Nat):Int)∧((0:Nat):Int)≤(i:Int)∧(i:Int)≤(l.length:Int))=true:=zD ⟨by omega,by omega,by omega⟩
   have q2:decide (0≤((i+1:Nat):Int)∧((i+1:Nat):Int)≤((l.length:Nat):Int)∧((l.length:Nat):Int)≤(l.length:Int))=true:=zD ⟨by omega,by omega,by omega⟩
   have r1:room (([]:B2c).length+((l.drop 0).take (i - 0)).length) 64=true:=by simp only[room,zG,zX,List.length_take];omega
   have t1:(l.drop (i+1)).take (l.length - (i+1))=l.drop (i+1):=List.take_of_length_le (by simp)
   have r2:room (([]++(l.drop 0).take (i - 0)).length+(l.drop (i+1)).length) 64=true:=by simp only[room,zG,List.nil_append,List.length_take,List.length_drop];omega
   simp only[k2,zI,zB,if_true,w,zE,Int.toNat_zero,q1,r1,q2,t1,r2]
   rw[List.nil_append,List.drop_zero,Nat.sub_zero];rfl
  ·simp only[k2,zH,zA,if_false]
 ·simp only[cf,zH,zU,zB,if_false]
theorem D2w {α:Type}{eb:Nat}{l:List α}{i:Nat}{r:α}(h:i≤l.length)(hr:room (l.length+1) eb=true):B1k eb l (i:Int) [r]=some (l.take i++[r]++l.drop i):=by
 unfold B1k
 rw[zD ⟨rfl,by omega,by omega⟩,hr];rfl
theorem D1c {α:Type}{l:List α}{i:Nat}(hi:i<l.length)(f:α→α)(h2:∀j (hj:j<l.length),j≠i→f l[j]=l[j]):l.set i (f l[i])=l.map f:=by
 refine List.ext_getElem (by simp) fun j h1 h3=>?_
 rw[List.getElem_set,List.getElem_map]
 split
 ·rename_i e;subst e;rfl
 ·rename_i e;exact(h2 j (by simpa using h1) (fun h=>e h.symm)).symm
theorem C09 {x:C3}(h:B25 x=true):∀i j (hi:i<x.2.1.length) (hj:j<x.2.1.length),x.2.1[i].1=x.2.1[j].1→i=j:=by
 intro i j hi hj e
 simp only[B25,zJ]at h
 have a1:=B9a h.1.2 hi
 have a2:=B9a h.1.2 hj
 simp only[zJ,zG]at a1 a2
 have:=a1.2
 rw[e,a2.2]at this
 omega
theorem C72 {cs:B26}:∀{ks:A7d} {last:Int},(runs (B34 cs) ks last).isSome=true→∀k∈ks,last<D1 cs k
 |[],_,_,k,hk=>by cases hk
 |y::ks,last,h,k,hk=>by
  simp only[runs]at h
  unfold B34 at h
  split at h
  ·rename_i c
   rcases List.mem_cons.mp hk with e|e
   ·rw[e];exact c.1
   ·have:=C72 (last:=D1 cs y) h k e
    exact Int.lt_trans c.1 this
  ·cases h
theorem C73 {cs:B26}:∀{ks:A7d} {last:Int},(runs (B34 cs) ks last).isSome=true→ks.Nodup
 |[],_,_=>List.Pairwise.nil
 |y::ks,last,h=>by
  simp only[runs]at h
  unfold B34 at h
  split at h
  ·rename_i c
   refine List.pairwise_cons.mpr ⟨fun k hk e=>?_,C73 (last:=D1 cs y) h⟩
   have:=C72 (last:=D1 cs y) h k hk
   rw[e]at this;exact Int.lt_irrefl _ this
  ·cases h
theorem D0y {x:C3}(h:B25 x=true):x.2.2.Nodup:=by
 simp only[B25,zJ]at h
 exact C73 h.2
theorem B5q (cs:B26)(s:ByteArray):D1 cs s<0∨∃k:Nat,D1 cs s=(k:Int)∧∃hk:k<cs.length,cs[k].1=s:=by
 by_cases c:0≤D1 cs s
 ·obtain⟨k,e⟩:=Int.eq_ofNat_of_zero_le c
  obtain⟨hk,e2⟩:=D0w (fun c:B3n=>decide (c.1=s)) cs 0 k (by rw[zS];exact e)
  exact .inr ⟨k,e,hk,by simpa using e2⟩
 ·exact .inl (by omega)
theorem C93:EV fun n=>∀(c:B3n) (d:B2g),B5y n c.1 c.2.1 c.2.2.1 c.2.2.2.1 c.2.2.2.2.1 c.2.2.2.2.2.1 c.2.2.2.2.2.2 d=some (decide (c.1=d.2.2.2.2.1)):=EV.true.up fun n _ c d=>by
 simp only[B5y,B3q]
theorem D1k:EV fun n=>∀(l:B26) (d:B2g),l.length≤1048576→B2d n l d=some (D1 l d.2.2.2.2.1):=(C93.and (EV.gt 1048577)).up fun n ⟨h1,hn⟩ l d hl=>by
 rw[B2d]
 refine B74 (fun c:B3n=>decide (c.1=d.2.2.2.2.1)) l (fun j k=>R1 n j l d (l.length:Int) (k:Int)) (fun j=>?_) (fun j k hk=>?_) l n 0 rfl (by omega) (by omega)
 ·simp only[R1,D3,zP,zH,zA]
 ·simp only[R1,D3,zD hk,D4 hk,zE,getD_at hk,zB,R2 hk (by omega),h1,zC]
  exact B7p _ _
def B4y (l:B26)(s:ByteArray):B26:=l.filter fun c=> !decide (c.1=s)
theorem B9d (s:ByteArray):∀(l:B26) (k:Nat),(idxFrom (fun c:B3n=>decide (c.1=s)) l k= -1∧B4y l s=l)∨∃m:Nat,m<l.length∧idxFrom (fun c:B3n=>decide (c.1=s)) l k=((k+m:Nat):Int)∧B4y l s=l.take m++B4y (l.drop (m+1)) s
 |[],k=> .inl ⟨rfl,rfl⟩
 |c::l,k=>by
  by_cases e:c.1=s
  ·refine .inr ⟨0,by simp,by simp[idxFrom,e],by simp[B4y,e]⟩
  ·rcases B9d s l (k+1)with⟨h1,h2⟩|⟨m,h1,h2,h3⟩
   ·refine .inl ⟨by simp[idxFrom,e,h1],?_⟩
    simp only[B4y,List.filter_cons,e,zH,zU,if_true]at h2⊢
    rw[h2]
   ·refine .inr ⟨m+1,by simp;omega,?_,?_⟩
    ·simp only[idxFrom,e,zH,zA]at h2⊢
     first
      |(rw[if_neg (by simp),h2];congr 1;omega)
      |(rw[h2];congr 1;omega)
    ·simp only[B4y,List.filter_cons,e,zH,zU,if_true,List.take_succ_cons,List.drop_succ_cons,List.cons_append]at h3⊢
     rw[h3]
theorem D1j:EV fun n=>∀(l:B26) (d:B2g),l.length≤1048576→B2a n l d=some (B4y l d.2.2.2.2.1):=(C93.and (D1k.and (EV.gt 1048578))).up fun n ⟨h1,h2,hn⟩ l d hl=>by
 have loop:∀(t:B26) (j k i:Nat) (cur:B26),cur.drop k=t→k≤cur.length→i≤k→t.length<j→cur.length≤1048576→
   D2 n j d (i:Int) (k:Int) cur=some (cur.take i++B4y t d.2.2.2.2.1):=by
  intro t
  induction t with
  |nil=>
   intro j k i cur hd hk hi hj hc
   obtain⟨j,rfl⟩:∃j',j=j'+1:=⟨j - 1,by omega⟩
   have:k=cur.length:=by have:=congrArg List.length hd;simp at this;omega
   subst this
   have q1:decide (0≤(i:Int)∧(i:Int)≤((cur.length:Nat):Int)∧((cur.length:Nat):Int)≤(cur.length:Int))=true:=zD ⟨by omega,by omega,by omega⟩
   have q2:∀z:B3n,decide (0≤((0:Nat):Int)∧((0:Nat):Int)≤(i:Int)∧(i:Int)≤((cur.take i++List.replicate (cur.length - i) z++cur.drop (i+(cur.length - i))).length:Int))=true:=fun z=>zD ⟨by omega,by omega,by simp;omega⟩
   simp only[D2,D3,zP,zH,zA,q1,zB,zE,q2]
   have:(cur.take i).length=i:=by simp;omega
   simp only[B4y,List.filter_nil,zH1,Nat.sub_zero]
   rw[List.append_assoc,List.take_append_of_le_length (by omega),List.take_of_length_le (by omega)]
  |cons y t ih=>
   intro j k i cur hd hk hi hj hc
   obtain⟨j,rfl⟩:∃j',j=j'+1:=⟨j - 1,by omega⟩
   obtain⟨g2,g3,g4⟩:=B2z hd y
   have hx:cur[k]=y:=by simpa[List.getD,g2]using g3
   have hik:i<cur.length:=by omega
   simp only[D2,D3,zD g2,D4 g2,D4 hik,zE,getD_at g2,hx,zB,R2 g2 (by omega),R2 hik (by omega),h1,zC]
   by_cases h:y.1=d.2.2.2.2.1
   ·simp only[h,zI,zT,zA]
    rw[ih j (k+1) i cur g4 (by omega) (by omega) (by simp at hj;omega) hc]
    simp[B4y,h]
   ·simp only[h,zH,zU,zB]
    rw[show(y.1,(y.2.1,(y.2.2.1,(y.2.2.2.1,(y.2.2.2.2.1,(y.2.2.2.2.2.1,y.2.2.2.2.2.2))))))=y from rfl]
    rw[ih j (k+1) (i+1) (cur.set i y) (by rw[List.drop_set_of_lt (by omega)];exact g4) (by simp;omega) (by omega) (by simp at hj;omega) (by simpa using hc)]
    have e:(cur.set i y).take (i+1)=cur.take i++[y]:=by
     rw[List.take_add_one,List.take_set_of_le (by omega),List.getElem?_set_self hik];rfl
    rw[e]
    simp[B4y,h]
 rw[B2a,h2 l d hl]
 simp only[zC]
 rcases B9d d.2.2.2.2.1 l 0 with⟨g1,g2⟩|⟨m,g1,g2,g3⟩
 ·have:D1 l d.2.2.2.2.1= -1:=g1
  rw[this,g2];rfl
 ·have e:D1 l d.2.2.2.2.1=(m:Int):=by have:=g2;rw[zS]at this;exact this
  have ne:(((m:Nat):Int)==(-1:Int))=false:=by simp
  rw[e,ne,zA,R2 g1 (by omega),loop (l.drop (m+1)) n (m+1) m l rfl (by omega) (by omega) (by simp;omega) hl,g3]
theorem D1p {l:List ByteArray}(h:l.Nodup){i j:Nat}(hi:i<l.length)(hj:j<l.length)(e:l[i]=l[j]):i=j:=by
 have h':=List.pairwise_iff_getElem.mp h
 rcases zE1 i j with c|c
 ·exact absurd e (h' i j hi hj c)
 ·rcases zE1 j i with c2|c2
  ·exact absurd e.symm (h' j i hj hi c2)
  ·omega
theorem C6q {l:B2c}{d:B2g}(h:C0q l d=0)(k1:¬d.1=1):∃i:Nat,tAt l d.2.1=(i:Int)∧∃hi:i<l.length,B3k l[i] d=0:=by
 simp only[C0q,k1,if_false]at h
 rcases C5e l d.2.1 with c|⟨i,ei,hi⟩
 ·rw[if_pos c]at h;cases h
 ·have z:¬((i:Int)<0):=by omega
  rw[ei,if_neg z,zE,getD_at hi]at h
  exact⟨i,ei,hi,h⟩
theorem C08 {x:C3}{d:B2g}(k4:d.1=4):B2j x d=(x.1,(B4y x.2.1 d.2.2.2.2.1,x.2.2)):=by
 simp only[B2j,k4,show¬(4:Int)=3 by decide,if_false,zH1,B4y]
 have e1:x.2.2.map (B3h d)=x.2.2:=by
  rw[show B3h d=id from funext fun k=>by simp[B3h,k4]];simp
 have e2:∀l:B26,l.map (B5x d)=l:=fun l=>by
  rw[show B5x d=id from funext fun k=>by simp[B5x,k4]];simp
 rw[e1,e2]
 congr 2
 refine List.filter_congr fun c _=>?_
 simp[C6r,k4]
theorem C07 {x:C3}{d:B2g}(k3:d.1=3):B2j x d=(x.1,(x.2.1++[d.2.2.1.getD 0 CZ],x.2.2)):=by
 simp only[B2j,k3,if_true]
 have e1:x.2.2.map (B3h d)=x.2.2:=by
  rw[show B3h d=id from funext fun k=>by simp[B3h,k3]];simp
 have e2:∀l:B26,l.map (B5x d)=l:=fun l=>by
  rw[show B5x d=id from funext fun k=>by simp[B5x,k3]];simp
 rw[e1,e2]
 congr 3
 exact List.filter_eq_self.mpr fun c _=>by simp[C6r,k3]
theorem B7z {x:C3}{d:B2g}(k5:d.1=5):B2j x d=(x.1,(x.2.1.map (B5x d),x.2.2.map (B3h d))):=by
 simp only[B2j,k5,show¬(5:Int)=3 by decide,if_false,zH1]
 congr 3
 exact List.filter_eq_self.mpr fun c _=>by simp[C6r,k5]
theorem C58:EV fun n=>∀(l:B2c) (d:B2g),B64 1048576 l→B7g 1048576 d→B7t n l d.1 d.2.1 d.2.2.1 d.2.2.2.1 d.2.2.2.2.1 d.2.2.2.2.2=some (C06 l d):=(C2o.and (C2q.and (C0r.and (C5z.and (C1h.and (C01.and (B6y.and (D1j.and (B94.and (EV.gt 100)))))))))).up fun n ⟨h1,h2,h3,h4,h5,h6,h7,h8,h9,hn⟩ l d hl hd=>by
 obtain⟨m,rfl⟩:∃m,n=m+1:=⟨n - 1,by omega⟩
 have e5:=h5 l d.2.1 hl.1
 rw[show idx (fun t:C3=>decide (t.1=d.2.1)) l=tAt l d.2.1 from rfl]at e5
 simp only[B7t,h1 l hl,h2 d hd,zC,C06,B2r,B6q]
 cases hc:B88 l
 ·simp
 cases hk:B3d d
 ·simp
 have hlen:=(B9z hc).1
 simp only[zT,zA,and_self,if_true,h3 l d hl hk,zC]
 by_cases hz:C0q l d=0
 rotate_left
 ·simp only[hz,zH,zU,zB,if_false]
 simp only[hz,zI,zT,zA,if_true,h4 l hl,e5,zC]
 by_cases k1:d.1=1
 ·simp only[k1,zI,zB,B7b,if_true]
  have hno:∀t∈l,t.1≠d.2.1:=fun t ht e=>by
   have:=D2i.mpr ⟨t,ht,e⟩
   simp only[C0q,k1,if_true,if_pos this]at hz
   cases hz
  have h6':=h6 d hd
  rw[k1]at h6'
  have hins:∀k,k≤l.length→B1k 64 l (k:Int) [((d.2.1,(d.2.2.1,d.2.2.2.1)):C3)]=some (l.take k++[(d.2.1,(d.2.2.1,d.2.2.2.1))]++l.drop k):=fun k hk=>D2w hk (by simp only[room,zG];omega)
  have loop:∀(t:B2c) (j k:Nat),l.drop k=t→k≤l.length→t.length<j→B4f (m+1) j (k:Int) 1 d.2.1 d.2.2.1 d.2.2.2.1 d.2.2.2.2.1 d.2.2.2.2.2 [] l=some (l.take k++B93 (d.2.1,(d.2.2.1,d.2.2.2.1)) t,(0,())):=by
   intro t
   induction t with
   |nil=>
    intro j k hdr hkl hj
    obtain⟨j,rfl⟩:∃i,j=i+1:=⟨j - 1,by simp at hj;omega⟩
    have:k=l.length:=by
     rcases zE1 k l.length with h'|h'
     ·rw[zC1 h']at hdr;cases hdr
     ·omega
    subst this
    simp only[B4f,D3,zP,zH,zA,h6',zC,B2k,hins _ (Nat.le_refl _)]
    simp[B93]
   |cons y t ih=>
    intro j k hdr hkl hj
    obtain⟨j,rfl⟩:∃i,j=i+1:=⟨j - 1,by simp at hj;omega⟩
    obtain⟨g2,g3,g4⟩:=B2z hdr C4b
    rw[getD_at g2]at g3
    have hy:y∈l:=by rw[←g3];exact zL g2
    have htk:l.take (k+1)=l.take k++[y]:=by rw[List.take_add_one,List.getElem?_eq_getElem g2,g3];rfl
    simp only[B4f,D3,zD g2,D4 g2,zE,getD_at g2,g3,zB,R2 g2 (by omega),h6',zC,B2k,hins k hkl]
    cases c:Op.bytesLess y.1.toList d.2.1.toList
    ·have hl:B92 d.2.1 y.1=true:=D1o (a:=y.1) c (hno y hy)
     rw[zA,hdr]
     simp only[B93]
     rw[if_pos hl]
     simp
    ·have hl:B92 d.2.1 y.1=false:=D0f (a:=y.1) c
     rw[zB,ih j (k+1) g4 (by omega) (by simp at hj;omega),htk]
     simp only[B93]
     rw[if_neg (by rw[hl];simp)]
     simp
  have:=loop l (m+1) 0 rfl (by omega) (by omega)
  rw[List.take_zero,List.nil_append]at this
  exact this
 obtain⟨i,ei,hi,hf⟩:=C6q hz k1
 have hx:=hl.2 _ (zL hi)
 have hcl:=hx.2.1.1
 have hkl:=hx.2.2.1
 have htab:=(B9z hc).2 _ (zL hi)
 simp only[k1,zH,zA,B7b,if_false,ei,zE,getD_at hi]
 by_cases k2:d.1=2
 ·simp only[k2,zI,zB,if_true,B37,R2 hi (by omega),D3a hi,zC]
 simp only[k2,zH,zA,if_false,D4 hi,zB]
 by_cases k3:d.1=3
 ·obtain⟨c,hcs,_⟩:=B9c hk k3
  have r1:room (l[i].2.1.length+1) 64=true:=by simp only[room,zG];omega
  simp only[k3,zI,zB,hcs,List.length_singleton,D1l,Int.toNat_zero,List.getD_cons_zero,r1,Nat.beq_refl,C07 k3]
 by_cases k4:d.1=4
 ·have e8:=h8 l[i].2.1 d hcl
  rw[show((d.1,(d.2.1,(d.2.2.1,(d.2.2.2.1,(d.2.2.2.2.1,d.2.2.2.2.2))))):B2g)=d from rfl]
  simp only[k3,k4,show¬(4:Int)=3 by decide,zH,zA,zI,zB,e8,zC,Nat.beq_refl,C08 k4]
 have k5:d.1=5:=by rcases C0a hk with h|h|h|h|h<;>first|exact h|exact absurd h (by assumption)
 simp only[k5,show¬(5:Int)=3 by decide,show¬(5:Int)=4 by decide,zH,zA,zI,zB]
 have h7':∀a ks s,B29 (m+1) a l[i].2.1 ks s=some (D1 l[i].2.1 s):=fun a ks s=>h7 _ _ _ _ hcl
 simp only[h7',zC]
 have hcol:¬D1 l[i].2.1 d.2.2.2.2.1<0:=fun h=>by
  simp only[B3k,k5,show¬(5:Int)=3 by decide,show¬(5:Int)=4 by decide,if_false,if_true]at hf
  split at hf
  ·cases hf
  ·first
    |(cases hf;done)
    |(rw[if_pos h]at hf;cases hf)
 rcases B5q l[i].2.1 d.2.2.2.2.1 with c|⟨q,eq,hq,hqn⟩
 ·exact absurd c hcol
 simp only[eq,D4 hq,zB,zE,getD_at hq]
 have hset:l[i].2.1.set q (d.2.2.2.2.2,l[i].2.1[q].2)=l[i].2.1.map (B5x d):=by
  have:=D1c hq (B5x d) fun j hj hne=>by
   simp only[B5x]
   rw[if_neg]
   rintro⟨_,e⟩
   exact hne (C09 htab j q hj hq (e.trans hqn.symm))
  rw[←this]
  congr 1
  simp only[B5x]
  rw[if_pos ⟨k5,hqn⟩]
 have hgs:∀x:C3,(l.set i x).getD i C4b=x:=fun x=>by
  rw[getD_at (show i<(l.set i x).length by simpa using hi),List.getElem_set_self]
 rw[hset]
 have hgs':∀x:C3,(l.set i x).getD i (E0,([],[]))=x:=hgs
 simp only[hgs',h9 _ _ hkl,zC]
 by_cases ck:0≤idx (fun x=>decide (d.2.2.2.2.1=x)) l[i].2.2
 ·obtain⟨p,ep⟩:=Int.eq_ofNat_of_zero_le ck
  obtain⟨hp,ep2⟩:=D0w (fun x=>decide (d.2.2.2.2.1=x)) l[i].2.2 0 p (by rw[zS];exact ep)
  rw[zG]at ep2
  have hks:l[i].2.2.set p d.2.2.2.2.2=l[i].2.2.map (B3h d):=by
   have hnd:=D0y htab
   have:=D1c hp (B3h d) fun j hj hne=>by
    simp only[B3h]
    rw[if_neg]
    rintro⟨_,e⟩
    exact hne (D1p hnd hj hp (e.trans ep2))
   rw[←this]
   congr 1
   simp only[B3h]
   rw[if_pos ⟨k5,ep2.symm⟩]
  have z:(0:Int)≤(p:Int):=by omega
  simp only[ep,zD z,zB,D4 hp,zE,hks,List.set_set,B7z k5]
 ·have hno:∀y∈l[i].2.2,y≠d.2.2.2.2.1:=fun y hy e=>by
   have:=(C6e (fun x=>decide (d.2.2.2.2.1=x)) l[i].2.2).mp ck y hy
   simp[e]at this
  have hks:l[i].2.2.map (B3h d)=l[i].2.2:=by
   rw[List.map_congr_left (g:=id) fun y hy=>by simp[B3h,hno y hy]];simp
  simp only[zK ck,zA,B7z k5,hks]
theorem C99 (t y:C3):∀l:B2c,y∈B93 t l→y=t∨y∈l
 |[],h=>by simpa[B93]using h
 |x::l,h=>by
  simp only[B93]at h
  split at h
  ·rcases List.mem_cons.mp h with e|e
   ·exact .inl e
   ·exact .inr e
  ·rcases List.mem_cons.mp h with e|e
   ·exact .inr (by rw[e];exact zM ..)
   ·exact(C99 t y l e).imp id (zF _)
theorem C98 (t:C3):∀l:B2c,(B93 t l).length=l.length+1
 |[]=>rfl
 |x::l=>by
  simp only[B93]
  split
  ·rfl
  ·simp[C98 t l]
theorem D1g {x:C3}{d:B2g}(hx:B2t 1048576 x)(ht:B25 x=true)(hd:B7g 1048576 d)(hk:B3d d=true):B2t 1048576 (B2j x d):=by
 obtain⟨l1,l2⟩:=D20 ht
 refine⟨hx.1,⟨?_,fun c hc=>?_⟩,⟨by simp only[B2j,List.length_map];omega,fun k hk'=>?_⟩⟩
 ·have h1:=List.length_filter_le (fun c=> !C6r d c) x.2.1
  simp only[B2j,List.length_append,List.length_map]
  split<;>simp<;>omega
 ·simp only[B2j]at hc
  rcases zY.mp hc with hc|hc
  ·obtain⟨c0,hc0,rfl⟩:=List.mem_map.mp hc
   have hs:=hx.2.1.2 c0 (List.mem_filter.mp hc0).1
   unfold B5x
   split
   ·exact⟨hd.2.2.2.2,hs.2⟩
   ·exact hs
  ·split at hc
   ·rename_i k3
    obtain⟨c1,hcs,_⟩:=B9c hk k3
    have:=hd.2.1.2
    rw[hcs]at hc this
    simp only[List.getD_cons_zero,zF1]at hc
    rw[hc];exact this c1 (by simp)
   ·cases hc
 ·obtain⟨k0,hk0,rfl⟩:=List.mem_map.mp hk'
  have hs:=hx.2.2.2 k0 hk0
  unfold B3h
  split
  ·exact hd.2.2.2.2
  ·exact hs
theorem D1e {l:B2c}{d:B2g}(hl:B64 1048576 l)(hd:B7g 1048576 d):B64 1048576 (C06 l d).1:=by
 unfold C06
 split
 ·rename_i h
  obtain⟨hc,hk⟩:=h
  have h6:=(B9z hc).1
  split
  ·rename_i hz
   simp only[B7b]
   split
   ·refine⟨by rw[C98];omega,fun t ht=>?_⟩
    rcases C99 _ _ _ ht with e|e
    ·rw[e];exact⟨hd.1,hd.2.1,hd.2.2.1⟩
    ·exact hl.2 t e
   ·rename_i k1
    obtain⟨i,ei,hi,_⟩:=C6q hz k1
    split
    ·exact⟨Nat.le_trans (D0m _ _) hl.1,fun t ht=>hl.2 t (D0n ht)⟩
    ·rw[ei,zE,getD_at hi]
     refine⟨by rw[List.length_set];exact hl.1,fun t ht=>?_⟩
     rcases List.mem_or_eq_of_mem_set ht with e|e
     ·exact hl.2 t e
     ·rw[e];exact D1g (hl.2 _ (zL hi)) ((B9z hc).2 _ (zL hi)) hd hk
  ·exact⟨Nat.zero_le _,fun t ht=>by cases ht⟩
 ·exact⟨Nat.zero_le _,fun t ht=>by cases ht⟩
def B50 (x:C3)(d:B2g)(r:B4h):B4h:=
 if d.1=4 then B2h r (D1 x.2.1 d.2.2.2.2.1).toNat else if d.1=3 then r++[(d.2.2.1.getD 0 CZ).2.2.2.2]else r
def B6w (x:C3)(l:B28)(d:B2g):B28×(Int×Unit):=
 if B3p x l=true∧B3d d=true∧d.2.1=x.1∧d.1≠1 then
  (if B3k x d=0 then(if d.1=2 then []else l.map (B50 x d),(0,()))else([],(B3k x d,())))else([],(1,()))
theorem C9q {x:C3}{s:ByteArray}(h:s=x.1):tAt [x] s=0:=by
 subst h
 simp[tAt,idx,idxFrom]
theorem C53 {x:C3}{d:B2g}(h:d.2.1=x.1)(k1:¬d.1=1):C0q [x] d=B3k x d:=by
 simp only[C0q,k1,if_false,C9q h]
 rfl
theorem C54 {x:C3}(h:B25 x=true):B88 [x]=true:=by
 simp[B88,B32,B3b,h]
theorem B9g {x:C3}{d:B2g}(k4:d.1=4)(hf:B3k x d=0):∃p:Nat,D1 x.2.1 d.2.2.2.2.1=(p:Int)∧p<x.2.1.length:=by
 rcases B5q x.2.1 d.2.2.2.2.1 with c|⟨p,ep,hp,_⟩
 ·simp only[B3k,k4,show¬(4:Int)=3 by decide,if_false,if_true,if_pos c]at hf
  cases hf
 ·exact⟨p,ep,hp⟩
theorem C94 {α:Type}:∀(t:List α) (k:Nat) (acc:List α),B5e (fun _ x (s:List α)=>s++[x]) k t acc=acc++t
 |[],k,acc=>by simp[B5e]
 |x::t,k,acc=>by
  simp only[B5e]
  rw[C94 t];simp
theorem B80 {α S:Type}{f g:Nat→α→S→S}(h:∀k x s,f k x s=g k x s):∀(t:List α) (k:Nat) (s:S),B5e f k t s=B5e g k t s
 |[],_,_=>rfl
 |x::t,k,s=>by
  simp only[B5e]
  rw[h,B80 h t]
theorem C95 {α S:Type}:∀(t:List α) (k:Nat) (s:S),B5e (fun _ _ (s:S)=>s) k t s=s
 |[],_,_=>rfl
 |x::t,k,s=>C95 t (k+1) s
theorem C60:EV fun n=>∀(x:C3) (l:B28) (d:B2g),B2t 1048576 x→B5u 1048576 l→B7g 1048576 d→B8l n x.1 x.2.1 x.2.2 l d.1 d.2.1 d.2.2.1 d.2.2.2.1 d.2.2.2.2.1 d.2.2.2.2.2=some (B6w x l d):=(B97.and (C2t.and (C5c.and (B6z.and (EV.gt 1048577))))).up fun n ⟨h1,h2,h3,h4,hn⟩ x l d hx hl hd=>by
 have e3:=h3 [x] d ⟨by simp,fun t ht=>by rw[zF1.mp ht];exact hx⟩ hd
 simp only[B8l,h1 x l hx hl.1,h2 d hd,h4 _ _ _ _ hx.2.1.1,zC,B3q,B2r,B6q,B6w]
 rw[show [(x.1,(x.2.1,x.2.2))]=[x]from rfl,e3]
 cases hr:B3p x l
 ·simp
 cases hk:B3d d
 ·simp
 simp only[zT,zA]
 by_cases hn1:d.2.1=x.1
 rotate_left
 ·simp[hn1]
 by_cases k1:d.1=1
 ·simp[hn1,k1]
 have ht:=(B7f hr).1
 have hlen:=(B7f hr).2.1
 simp only[hn1,k1,zI,zH,zT,zA,zC,ne_eq,not_false_eq_true,and_self,if_true,C06,C54 ht,hk,C53 hn1 k1]
 by_cases hf:B3k x d=0
 rotate_left
 ·simp only[hf,zH,zU,zB,if_false]
 simp only[hf,zI,zT,zA,if_true]
 have hL2:∀(k0:Int→List (List (Int×(Int×ByteArray)))→Int→Int→Int→ByteArray→List (ByteArray×(Int×(Bool×(Bool×(Int×(Int×ByteArray))))))→List ByteArray→ByteArray→ByteArray→List (List (Int×(Int×ByteArray)))→Option ((List (List (Int×(Int×ByteArray))))×(Int×Unit)))
   (r:B4h) (k:Nat) (acc:B28),r.length=x.2.1.length→k<60→acc.length≤60→
   B38 n k0 n (D1 x.2.1 d.2.2.2.2.1) l (l.length:Int) (k:Int) r (r.length:Int) ((0:Nat):Int) d.1 x.1 d.2.2.1 d.2.2.2.1 d.2.2.2.2.1 d.2.2.2.2.2 acc []=
    k0 (D1 x.2.1 d.2.2.2.2.1) l (l.length:Int) ((k+1:Nat):Int) d.1 x.1 d.2.2.1 d.2.2.2.1 d.2.2.2.2.1 d.2.2.2.2.2 (if d.1=2 then acc else acc++[B50 x d r]):=by
  intro k0 r k acc hrl hk60 hacc
  have hcl:=hx.2.1.1
  refine(B8v r (fun i v (s:B4h)=>if d.1=4∧(i:Int)=D1 x.2.1 d.2.2.2.2.1 then s else s++[v]) (fun j i s=>B38 n k0 j (D1 x.2.1 d.2.2.2.2.1) l (l.length:Int) (k:Int) r (r.length:Int) (i:Int) d.1 x.1 d.2.2.1 d.2.2.2.1 d.2.2.2.2.1 d.2.2.2.2.2 acc s)
   (fun s=>k0 (D1 x.2.1 d.2.2.2.2.1) l (l.length:Int) ((k+1:Nat):Int) d.1 x.1 d.2.2.1 d.2.2.2.1 d.2.2.2.2.1 d.2.2.2.2.2 (if d.1=2 then acc else acc++[s++(if d.1=3 then [(d.2.2.1.getD 0 CZ).2.2.2.2]else [])]))
   (fun i s=>s.length≤i) (fun i hi s hs=>?_) (fun j s hs=>?_) (fun j i s hi hs=>?_) r n 0 [] rfl (by omega) (by omega) (Nat.le_refl 0)).trans ?_
  ·split
   ·omega
   ·rw[List.length_append];simp only[zW,zX];omega
  ·have w:IntKind.wrap .i64 ((k:Int)+1)=((k+1:Nat):Int):=by rw[wrap64]<;>omega
   have r2:∀z:B4h,room (acc.length+[z].length) 24=true:=fun z=>by simp only[room,zG,zW,zX];omega
   simp only[B38,D3,zP,zH,zA,B2r,B6q,r2,zB,w]
   by_cases k3:d.1=3
   ·obtain⟨c,hcs,_⟩:=B9c hk k3
    have r1:room (s.length+1) 32=true:=by simp only[room,zG];omega
    simp only[k3,zI,zB,hcs,List.length_singleton,D1l,Int.toNat_zero,List.getD_cons_zero,r1,show¬(3:Int)=2 by decide,zH,zU,if_false,if_true]
   ·by_cases k2:d.1=2
    ·simp only[k2,show¬(2:Int)=3 by decide,zH,zI,zA,zT,if_true]
    ·simp only[k3,k2,zH,zA,zU,zB,if_false,zH1]
  ·have r1:∀z:B5d,room (s.length+[z].length) 32=true:=fun z=>by simp only[room,zG,zW,zX];omega
   simp only[B38,D3,zD hi,D4 hi,zE,getD_at hi,zB,R2 hi (by omega),B6q]
   rw[show [(r[i].1,(r[i].2.1,r[i].2.2))]=[r[i]]from rfl,r1]
   by_cases k4:d.1=4
   ·by_cases e:(i:Int)=D1 x.2.1 d.2.2.2.2.1
    ·simp only[k4,e,zI,zT,zA,and_self,if_true]
    ·simp only[k4,e,zI,zH,zT,zU,zA,zB,and_false,if_false]
   ·simp only[k4,zH,zU,zB,false_and,if_false]
  ·congr 1
   by_cases k2:d.1=2
   ·rw[if_pos k2,if_pos k2]
   rw[if_neg k2,if_neg k2]
   congr 2
   unfold B50
   by_cases k4:d.1=4
   ·obtain⟨p,ep,hp⟩:=B9g k4 hf
    rw[if_pos k4,if_neg (by rw[k4];decide),zH1,ep,zE]
    rw[B80 (g:=fun i v (s:B4h)=>if i=p then s else s++[v]) (fun i v s=>by
     simp only[k4,true_and]
     by_cases e:i=p
     ·rw[if_pos (by omega),if_pos e]
     ·rw[if_neg (by omega),if_neg e])]
    rw[C6v p r 0 [] (Nat.zero_le _)];rfl
   ·rw[if_neg k4,B80 (g:=fun _ v (s:B4h)=>s++[v]) (fun i v s=>by simp only[k4,false_and,if_false]),C94,List.nil_append]
    by_cases k3:d.1=3
    ·rw[if_pos k3,if_pos k3]
    ·rw[if_neg k3,if_neg k3,zH1]
 refine(B8v l (fun _ r (s:B28)=>if d.1=2 then s else s++[B50 x d r]) (fun j k s=>B3j n j (D1 x.2.1 d.2.2.2.2.1) l (l.length:Int) (k:Int) d.1 x.1 d.2.2.1 d.2.2.2.1 d.2.2.2.2.1 d.2.2.2.2.2 s) (fun s=>some (s,(0,())))
  (fun k s=>s.length≤k) (fun k hk' s hs=>?_) (fun j s hs=>?_) (fun j k s hk' hs=>?_) l n 0 [] rfl (by omega) (by omega) (Nat.le_refl 0)).trans ?_
 ·split
  ·omega
  ·rw[List.length_append];simp only[zW,zX];omega
 ·simp only[B3j,D3,zP,zH,zA]
 ·have:=hL2 (fun y58 y59 y60 y61 y62 y63 y64 y65 y66 y67 y68=>B3j n j y58 y59 y60 y61 y62 y63 y64 y65 y66 y67 y68) l[k] k s (C1p hr _ (zL hk')) (by omega) (by omega)
  simp only[B3j,D3,zD hk',D4 hk',zE,getD_at hk',zB]
  exact this
 ·congr 2
  by_cases k2:d.1=2
  ·rw[B80 (g:=fun _ _ (s:B28)=>s) (fun k r s=>by rw[if_pos k2]),C95,if_pos k2]
  ·rw[B80 (g:=fun _ r (s:B28)=>if false=true then s else s++[B50 x d r]) (fun k r s=>by rw[if_neg k2];simp),B8a (fun _=>false) (B50 x d),if_neg k2]
   rw[List.nil_append]
   congr 1
   exact List.filter_eq_self.mpr fun _ _=>rfl
theorem C5x:EV fun n=>∀(x:C3) (l:B28) (d:B2g),B2t 1048576 x→B5u 1048576 l→B7g 1048576 d→B8j n x.1 x.2.1 x.2.2 l d.1 d.2.1 d.2.2.1 d.2.2.2.1 d.2.2.2.2.1 d.2.2.2.2.2=some (B6w x l d):=(C1i.and (C2q.and (C0r.and (B6y.and (C59.and (EV.gt 1048577)))))).up fun n ⟨h1,h2,h3,h4,h5,hn⟩ x l d hx hl hd=>by
 obtain⟨m,rfl⟩:∃m,n=m+1:=⟨n - 1,by omega⟩
 have h4':∀s,B29 (m+1) x.1 x.2.1 x.2.2 s=some (D1 x.2.1 s):=fun s=>h4 _ _ _ _ hx.2.1.1
 simp only[B8j,h1 x l hx hl.1,h2 d hd,h4',zC,B3q,B2r,B6q,B6w]
 cases hr:B3p x l
 ·simp
 cases hk:B3d d
 ·simp
 have e3:=h3 [x] d ⟨by simp,fun t ht=>by rw[zF1.mp ht];exact hx⟩ hk
 rw[show [(x.1,(x.2.1,x.2.2))]=[x]from rfl,e3]
 simp only[zT,zA]
 by_cases hn1:d.2.1=x.1
 rotate_left
 ·simp[hn1]
 by_cases k1:d.1=1
 ·simp[hn1,k1]
 have hlen:=(B7f hr).2.1
 simp only[hn1,k1,zI,zH,zT,zA,zC,ne_eq,not_false_eq_true,and_self,if_true,C53 hn1 k1]
 by_cases hf:B3k x d=0
 rotate_left
 ·simp only[hf,zH,zU,zB,if_false]
 simp only[hf,zI,zT,zA,if_true,h5 l hl,zC]
 by_cases k2:d.1=2
 ·simp only[k2,zI,zB,if_true]
 simp only[k2,zH,zA,if_false]
 by_cases k3:d.1=3
 ·obtain⟨c,hcs,_⟩:=B9c hk k3
  simp only[k3,zI,zB]
  have loop:∀(t:B28) (j k:Nat) (s:B28),s.drop k=t→k≤s.length→t.length<j→s.length=l.length→(∀r∈t,r.length≤1048576)→
    B4p (m+1) j (l.length:Int) (k:Int) 3 x.1 d.2.2.1 d.2.2.2.1 d.2.2.2.2.1 d.2.2.2.2.2 s=some (s.take k++t.map (B50 x d),(0,())):=by
   intro t
   induction t with
   |nil=>
    intro j k s hdr hkl hj hsl _
    obtain⟨j,rfl⟩:∃i,j=i+1:=⟨j - 1,by simp at hj;omega⟩
    have:k=s.length:=by
     rcases zE1 k s.length with h'|h'
     ·rw[zC1 h']at hdr;cases hdr
     ·omega
    subst this
    simp only[B4p,hsl,D3,zP,zH,zA]
    rw[←hsl,List.take_length];simp
   |cons r t ih=>
    intro j k s hdr hkl hj hsl hrl
    obtain⟨j,rfl⟩:∃i,j=i+1:=⟨j - 1,by simp at hj;omega⟩
    obtain⟨g2,g3,g4⟩:=B2z hdr []
    have hk2:k<l.length:=by omega
    have hrr:=hrl r (zM ..)
    have r1:room (r.length+1) 32=true:=by simp only[room,zG];omega
    simp only[B4p,D3,zD hk2,D4 g2,zE,g3,zB,hcs,List.length_singleton,D1l,Int.toNat_zero,List.getD_cons_zero,r1,Nat.beq_refl,R2 hk2 (by omega)]
    have:=ih j (k+1) (s.set k (r++[c.2.2.2.2])) (by rw[List.drop_set_of_lt (by omega)];exact g4) (by simp;omega) (by simp at hj;omega) (by simpa using hsl) (fun r' hr'=>hrl r' (zF _ hr'))
    rw[hcs]at this
    rw[this]
    have hset:(s.set k (r++[c.2.2.2.2])).take (k+1)=s.take k++[r++[c.2.2.2.2]]:=by
     rw[List.take_add_one,List.take_set_of_le (by omega),List.getElem?_set_self g2];rfl
    rw[hset]
    simp[B50,k3,hcs]
  have:=loop l (m+1) 0 l rfl (by omega) (by omega) rfl fun r hr'=>by
   have:=C1p hr r hr'
   have:=hx.2.1.1
   omega
  rw[List.take_zero,List.nil_append]at this
  exact this
 by_cases k4:d.1=4
 ·obtain⟨p,ep,hp⟩:=B9g k4 hf
  simp only[k4,show¬(4:Int)=3 by decide,zH,zA,zI,zB,ep]
  have hcl:=hx.2.1.1
  have loop:∀(t:B28) (j k:Nat) (s:B28),s.drop k=t→k≤s.length→t.length<j→s.length=l.length→(∀r∈t,p<r.length)→
    B4q (m+1) j (p:Int) (l.length:Int) (k:Int) s=some (s.take k++t.map (B50 x d),(0,())):=by
   intro t
   induction t with
   |nil=>
    intro j k s hdr hkl hj hsl _
    obtain⟨j,rfl⟩:∃i,j=i+1:=⟨j - 1,by simp at hj;omega⟩
    have:k=s.length:=by
     rcases zE1 k s.length with h'|h'
     ·rw[zC1 h']at hdr;cases hdr
     ·omega
    subst this
    simp only[B4q,hsl,D3,zP,zH,zA]
    rw[←hsl,List.take_length];simp
   |cons r t ih=>
    intro j k s hdr hkl hj hsl hrl
    obtain⟨j,rfl⟩:∃i,j=i+1:=⟨j - 1,by simp at hj;omega⟩
    obtain⟨g2,g3,g4⟩:=B2z hdr []
    have hk2:k<l.length:=by omega
    have hrr:=hrl r (zM ..)
    have wp:IntKind.wrap .i64 ((p:Int)+1)=((p+1:Nat):Int):=by rw[wrap64]<;>omega
    simp only[B4q,D3,zD hk2,D4 g2,zE,g3,zB,B3l,wp,D3a hrr,zC,Nat.beq_refl,R2 hk2 (by omega)]
    rw[ih j (k+1) (s.set k (B2h r p)) (by rw[List.drop_set_of_lt (by omega)];exact g4) (by simp;omega) (by simp at hj;omega) (by simpa using hsl) (fun r' hr'=>hrl r' (zF _ hr'))]
    have hset:(s.set k (B2h r p)).take (k+1)=s.take k++[B2h r p]:=by
     rw[List.take_add_one,List.take_set_of_le (by omega),List.getElem?_set_self g2];rfl
    rw[hset]
    simp[B50,k4,ep]
  have:=loop l (m+1) 0 l rfl (by omega) (by omega) rfl fun r hr'=>by
   rw[C1p hr r hr'];exact hp
  rw[List.take_zero,List.nil_append]at this
  exact this
 ·simp only[k3,k4,zH,zA]
  rw[show B50 x d=id from funext fun r=>by simp[B50,k3,k4],List.map_id]
theorem D0a {cs:B26}(hu:∀i j (hi:i<cs.length) (hj:j<cs.length),cs[i].1=cs[j].1→i=j){k:Nat}(hk:k<cs.length):D1 cs cs[k].1=(k:Int):=by
 have hp:0≤D1 cs cs[k].1:=C49 ⟨cs[k],zL hk,by simp⟩
 rcases B5q cs cs[k].1 with c|⟨i,e,hi,e2⟩
 ·omega
 ·rw[e]
  have:=hu i k hi hk e2
  rw[this]
theorem C7r {x:C3}(hw:B33 x.1=true)(h1:1≤x.2.1.length)(h8:x.2.1.length≤8)(hk:1≤x.2.2.length)(hc:∀c∈x.2.1,B4j c=true)
  (hu:∀i j (hi:i<x.2.1.length) (hj:j<x.2.1.length),x.2.1[i].1=x.2.1[j].1→i=j) (hr:(runs (B34 x.2.1) x.2.2 (-1)).isSome=true):B25 x=true:=by
 simp only[B25,hw,zD (And.intro h1 h8),zD hk,hr,Bool.and_true,zG1]
 refine(B3t _ _ _).mpr fun i hi=>?_
 rw[zS,hc _ (zL hi),D0a hu hi]
 simp
theorem C9c {cs cs':B26}{f:ByteArray→ByteArray}{m:Int→Int}:∀{ks:A7d} {last:Int},(runs (B34 cs) ks last).isSome=true→ -1≤last→
  (∀k∈ks,D1 cs' (f k)=m (D1 cs k)∧(cs'.getD (D1 cs' (f k)).toNat CZ).2.2.1=true)→(∀k∈ks,last<D1 cs k→m last<m (D1 cs k))→
  (∀a∈ks,∀b∈ks,D1 cs a<D1 cs b→m (D1 cs a)<m (D1 cs b))→(runs (B34 cs') (ks.map f) (m last)).isSome=true
 |[],_,_,_,_,_,_=>rfl
 |k::ks,last,h,hl,h1,h2,h3=>by
  simp only[runs]at h
  unfold B34 at h
  split at h
  ·rename_i c
   obtain⟨e1,e2⟩:=h1 k (zM ..)
   simp only[List.map_cons,runs]
   unfold B34
   rw[if_pos ⟨by rw[e1];exact h2 k (zM ..) c.1,e2⟩]
   have h0:(-1:Int)≤D1 cs k:=by have:=c.1;omega
   have:=C9c (cs:=cs) (cs':=cs') (f:=f) (m:=m) (ks:=ks) (last:=D1 cs k) h h0 (fun a ha=>h1 a (zF _ ha))
    (fun a ha=>h3 k (zM ..) a (zF _ ha)) (fun a ha b hb=>h3 a (zF _ ha) b (zF _ hb))
   rw[←e1]at this
   exact this
  ·cases h
theorem D1h {cs:B26}{c:B3n}{s:ByteArray}(h:0≤D1 cs s):D1 (cs++[c]) s=D1 cs s:=by
 have:∀(l:B26) (k:Nat),0≤idxFrom (fun c:B3n=>decide (c.1=s)) l k→idxFrom (fun c:B3n=>decide (c.1=s)) (l++[c]) k=idxFrom (fun c:B3n=>decide (c.1=s)) l k:=by
  intro l
  induction l with
  |nil=>intro k h;simp[idxFrom]at h
  |cons x l ih=>
   intro k h
   simp only[List.cons_append,idxFrom]at h⊢
   by_cases e:x.1=s
   ·simp[e]
   ·simp only[e,zH]at h⊢
    have:=ih (k+1) (by simpa using h)
    simpa using this
 exact this cs 0 h
theorem C1n {x:C3}(h:B25 x=true){k:ByteArray}(hk:k∈x.2.2):∃p:Nat,D1 x.2.1 k=(p:Int)∧∃hp:p<x.2.1.length,x.2.1[p].1=k∧x.2.1[p].2.2.1=true:=by
 obtain⟨a1,a2,a3⟩:=(B79 h).1 k hk
 rcases B5q x.2.1 k with c|⟨p,e,hp,e2⟩
 ·omega
 ·refine⟨p,e,hp,e2,?_⟩
  rw[e,zE,getD_at hp]at a3
  exact a3
theorem C3a {x:C3}(h:B25 x=true):B33 x.1=true:=by
 simp only[B25,zJ]at h
 exact h.1.1.1.1
theorem C5l {x:C3}(h:B25 x=true):1≤x.2.2.length:=by
 have:=D08 h
 cases hx:x.2.2 with
 |nil=>exact absurd hx this
 |cons a l=>simp
theorem D13 {x:C3}(h:B25 x=true):(runs (B34 x.2.1) x.2.2 (-1)).isSome=true:=by
 simp only[B25,zJ]at h
 exact h.2
def C48 (x:C3)(d:B2g)(p:Int):Int:=if d.1=4∧D1 x.2.1 d.2.2.2.2.1<p then p - 1 else p
theorem D1i {cs:B26}{d:B2g}(k5:d.1=5)(hto:D1 cs d.2.2.2.2.2<0)(s:ByteArray)(hs:0≤D1 cs s):D1 (cs.map (B5x d)) (B3h d s)=D1 cs s:=by
 have hno:∀c∈cs,c.1≠d.2.2.2.2.2:=fun c hc e=>by
  have:=C49 (p:=fun c:B3n=>decide (c.1=d.2.2.2.2.2)) (l:=cs) ⟨c,hc,by simp[e]⟩
  have h2:0≤D1 cs d.2.2.2.2.2:=this
  omega
 have hsn:s≠d.2.2.2.2.2:=fun e=>by rw[e]at hs;omega
 have:∀(l:B26) (k:Nat),(∀c∈l,c.1≠d.2.2.2.2.2)→idxFrom (fun c:B3n=>decide (c.1=B3h d s)) (l.map (B5x d)) k=idxFrom (fun c:B3n=>decide (c.1=s)) l k:=by
  intro l
  induction l with
  |nil=>intro k _;rfl
  |cons c l ih=>
   intro k hl
   have hc:=hl c (zM ..)
   have e:decide ((B5x d c).1=B3h d s)=decide (c.1=s):=by
    rw[decide_eq_decide]
    unfold B5x B3h
    simp only[k5,true_and]
    by_cases a:c.1=d.2.2.2.2.1
    ·by_cases b:s=d.2.2.2.2.1
     ·rw[if_pos a,if_pos b];exact⟨fun _=>a.trans b.symm,fun _=>rfl⟩
     ·rw[if_pos a,if_neg b];exact⟨fun h=>absurd h.symm hsn,fun h=>absurd (h.symm.trans a) b⟩
    ·by_cases b:s=d.2.2.2.2.1
     ·rw[if_neg a,if_pos b];exact⟨fun h=>absurd h hc,fun h=>absurd (h.trans b) a⟩
     ·rw[if_neg a,if_neg b]
   simp only[List.map_cons,idxFrom,e,ih (k+1) fun c hc=>hl c (zF _ hc)]
 exact this cs 0 hno
theorem C9m {x:C3}{d:B2g}(h:B25 x=true)(hk:B3d d=true)(hf:B3k x d=0)(k1:¬d.1=1)(k2:¬d.1=2){k:ByteArray}(hm:k∈x.2.2):
  D1 (B2j x d).2.1 (B3h d k)=C48 x d (D1 x.2.1 k)∧((B2j x d).2.1.getD (D1 (B2j x d).2.1 (B3h d k)).toNat CZ).2.2.1=true:=by
 obtain⟨p,ep,hp,e1,e2⟩:=C1n h hm
 have hu:=C09 h
 have kinds:=C0a hk
 by_cases k3:d.1=3
 ·rw[C07 k3]
  have ek:B3h d k=k:=by simp[B3h,k3]
  rw[ek]
  dsimp only
  rw[D1h (by omega),ep]
  refine⟨by simp[C48,k3],?_⟩
  rw[zE,getD_at (by simp;omega),List.getElem_append_left hp]
  exact e2
 by_cases k5:d.1=5
 ·have hto:D1 x.2.1 d.2.2.2.2.2<0:=by
   simp only[B3k,k5,show¬(5:Int)=3 by decide,show¬(5:Int)=4 by decide,if_false,if_true]at hf
   split at hf
   ·cases hf
   ·omega
  rw[B7z k5]
  dsimp only
  rw[D1i k5 hto k (by omega),ep]
  refine⟨by simp[C48,k5],?_⟩
  rw[zE,getD_at (by simpa using hp),List.getElem_map]
  unfold B5x
  split<;>exact e2
 have k4:d.1=4:=by rcases kinds with h|h|h|h|h<;>first|exact h|exact absurd h (by assumption)
 obtain⟨g,eg,hg⟩:=B9g k4 hf
 have hgn:x.2.1[g].1=d.2.2.2.2.1:=by
  rcases B5q x.2.1 d.2.2.2.2.1 with c|⟨q,eq,hq,e⟩
  ·omega
  ·have:q=g:=by omega
   subst this;exact e
 have hne:p≠g:=by
  rintro rfl
  simp only[B3k,k4,show¬(4:Int)=3 by decide,if_false,if_true]at hf
  rw[if_neg (by omega)]at hf
  split at hf
  ·cases hf
  ·rename_i hno
   exact hno ((D0c _ _).mpr (by rw[←hgn,e1];exact hm))
 have hbut:B4y x.2.1 d.2.2.2.2.1=B2h x.2.1 g:=by
  rcases B9d d.2.2.2.2.1 x.2.1 0 with⟨h1,_⟩|⟨m,h1,h2,h3⟩
  ·have:D1 x.2.1 d.2.2.2.2.1= -1:=h1
   omega
  ·have hmg:m=g:=by
    have:D1 x.2.1 d.2.2.2.2.1=((0+m:Nat):Int):=h2
    omega
   rw[h3,hmg]
   unfold B2h
   congr 1
   refine List.filter_eq_self.mpr fun c hc=>?_
   obtain⟨j,hj,rfl⟩:=List.mem_iff_getElem.mp hc
   rw[List.getElem_drop]
   simp only[List.length_drop]at hj
   rw[zK];rfl
   intro e
   have:=hu (g+1+j) g (by omega) hg (e.trans hgn.symm)
   omega
 rw[C08 k4]
 have ek:B3h d k=k:=by simp[B3h,k4]
 rw[ek]
 dsimp only
 rw[hbut]
 have hw:∀j (hj:j<(B2h x.2.1 g).length),∃h,(B2h x.2.1 g)[j]=x.2.1[(if j<g then j else j+1)]'h:=fun j hj=>by
  obtain⟨h,e⟩:=B84 hj
  exact⟨h,e⟩
 have hlen:(B2h x.2.1 g).length=x.2.1.length - 1:=by simp[B2h];omega
 have hu':∀i j (hi:i<(B2h x.2.1 g).length) (hj:j<(B2h x.2.1 g).length),(B2h x.2.1 g)[i].1=(B2h x.2.1 g)[j].1→i=j:=by
  intro i j hi hj e
  obtain⟨a1,a2⟩:=hw i hi
  obtain⟨b1,b2⟩:=hw j hj
  rw[a2,b2]at e
  have:=hu _ _ _ _ e
  split at this<;>split at this<;>omega
 obtain⟨q,hq,hq2⟩:∃q,q<(B2h x.2.1 g).length∧(if q<g then q else q+1)=p:=by
  by_cases c:p<g
  ·exact⟨p,by omega,by rw[if_pos c]⟩
  ·exact⟨p - 1,by omega,by rw[if_neg (by omega)];omega⟩
 obtain⟨a1,a2⟩:=hw q hq
 have hqe:(B2h x.2.1 g)[q]=x.2.1[p]:=by rw[a2];congr 1
 have e5:D1 (B2h x.2.1 g) k=(q:Int):=by
  have:=D0a hu' hq
  rw[hqe,e1]at this
  exact this
 rw[e5]
 refine⟨?_,by rw[zE,getD_at hq,hqe];exact e2⟩
 unfold C48
 rw[eg,ep]
 split at hq2
 ·rw[if_neg (by rintro⟨_,h⟩;omega)];omega
 ·rw[if_pos ⟨k4,by omega⟩];omega
theorem C91 {x:C3}{d:B2g}{a b:Int}(ha:d.1=4→a≠D1 x.2.1 d.2.2.2.2.1)(h:a<b):C48 x d a<C48 x d b:=by
 unfold C48
 by_cases k4:d.1=4
 ·have:=ha k4
  by_cases c1:D1 x.2.1 d.2.2.2.2.1<a
  ·rw[if_pos ⟨k4,c1⟩,if_pos ⟨k4,by omega⟩];omega
  ·rw[if_neg (fun h=>c1 h.2)]
   split
   ·omega
   ·exact h
 ·rw[if_neg (fun h=>k4 h.1),if_neg (fun h=>k4 h.1)];exact h
theorem C1k {x:C3}{d:B2g}(h:B25 x=true)(hf:B3k x d=0)(k4:d.1=4){k:ByteArray}(hm:k∈x.2.2):D1 x.2.1 k≠D1 x.2.1 d.2.2.2.2.1:=by
 intro e
 obtain⟨p,ep,hp,e1,_⟩:=C1n h hm
 rcases B5q x.2.1 d.2.2.2.2.1 with c|⟨q,eq,hq,e2⟩
 ·omega
 have hpq:p=q:=by omega
 subst hpq
 simp only[B3k,k4,show¬(4:Int)=3 by decide,if_false,if_true]at hf
 rw[if_neg (by omega)]at hf
 split at hf
 ·cases hf
 ·rename_i hno
  exact hno ((D0c _ _).mpr (by rw[←e2,e1];exact hm))
theorem D17 {d:B2g}(hk:B3d d=true)(k3:d.1=3):∃c,d.2.2.1=[c]∧B4j c=true∧(c.2.2.2.1=true∨c.2.2.1=false):=by
 obtain⟨c,hcs,hc⟩:=B9c hk k3
 refine⟨c,hcs,hc,?_⟩
 simp only[B3d,k3,show¬(3:Int)=1 by decide,show¬(3:Int)=2 by decide,if_false,if_true,hcs,zJ,Bool.or_eq_true,Bool.not_eq_true']at hk
 exact hk.2.1.1.1.2
theorem D2s {d:B2g}(hk:B3d d=true)(k5:d.1=5):B33 d.2.2.2.2.2=true:=by
 simp only[B3d,k5,show¬(5:Int)=1 by decide,show¬(5:Int)=2 by decide,show¬(5:Int)=3 by decide,show¬(5:Int)=4 by decide,if_false,if_true,zJ]at hk
 exact hk.2.2
theorem C92 {x:C3}{d:B2g}(h:B25 x=true)(hk:B3d d=true)(hf:B3k x d=0)(k1:¬d.1=1)(k2:¬d.1=2):B25 (B2j x d)=true:=by
 have hu:=C09 h
 obtain⟨_,hcol,h8,hl1⟩:=B79 h
 have hkeys:(B2j x d).2.2=x.2.2.map (B3h d):=rfl
 have hrun:(runs (B34 (B2j x d).2.1) (B2j x d).2.2 (-1)).isSome=true:=by
  rw[hkeys]
  have hneg:C48 x d (-1)= -1:=by
   unfold C48
   split
   ·rename_i c
    obtain⟨g,eg,hg⟩:=B9g c.1 hf
    omega
   ·rfl
  have:=C9c (cs:=x.2.1) (cs':=(B2j x d).2.1) (f:=B3h d) (m:=C48 x d) (ks:=x.2.2) (last:= -1) (D13 h) (by omega) (fun k hm=>C9m h hk hf k1 k2 hm)
   (fun k hm hlt=>C91 (fun k4=>by obtain⟨g,eg,hg⟩:=B9g k4 hf;omega) hlt)
   (fun a ha b hb hlt=>C91 (fun k4=>C1k h hf k4 ha) hlt)
  rw[hneg]at this
  exact this
 have hk1:1≤(B2j x d).2.2.length:=by rw[hkeys,List.length_map];exact C5l h
 by_cases k3:d.1=3
 ·obtain⟨c,hcs,hc,_⟩:=D17 hk k3
  have hnew:∀y∈x.2.1,y.1≠c.1:=fun y hy e=>by
   have:0≤D1 x.2.1 c.1:=C49 ⟨y,hy,by simp[e]⟩
   simp only[B3k,k3,if_true,hcs,List.getD_cons_zero,if_pos this]at hf
   cases hf
  have hlt:x.2.1.length≠8:=fun e=>by
   simp only[B3k,k3,if_true]at hf
   split at hf
   ·cases hf
   ·first
     |(cases hf;done)
     |(rw[if_pos e]at hf;cases hf)
  have e:(B2j x d).2.1=x.2.1++[c]:=by rw[C07 k3,hcs];rfl
  refine C7r (show B33 (B2j x d).1=true from C3a (x:=x) h) (by rw[e];simp) (by rw[e];simp;omega) hk1 (fun y hy=>?_) (fun i j hi hj hij=>?_) hrun
  ·rw[e]at hy
   rcases zY.mp hy with hy|hy
   ·exact hcol y hy
   ·rw[zF1.mp hy];exact hc
  ·simp only[e,List.length_append,List.length_singleton]at hi hj
   simp only[e]at hij
   rw[List.getElem_append,List.getElem_append]at hij
   by_cases ci:i<x.2.1.length
   ·by_cases cj:j<x.2.1.length
    ·rw[dif_pos ci,dif_pos cj]at hij;exact hu i j ci cj hij
    ·rw[dif_pos ci,dif_neg cj]at hij
     simp only[List.getElem_singleton]at hij
     exact absurd hij (hnew _ (zL ci))
   ·by_cases cj:j<x.2.1.length
    ·rw[dif_neg ci,dif_pos cj]at hij
     simp only[List.getElem_singleton]at hij
     exact absurd hij.symm (hnew _ (zL cj))
    ·omega
 by_cases k5:d.1=5
 ·have hto:D1 x.2.1 d.2.2.2.2.2<0:=by
   simp only[B3k,k5,show¬(5:Int)=3 by decide,show¬(5:Int)=4 by decide,if_false,if_true]at hf
   split at hf
   ·cases hf
   ·omega
  have hno:∀c∈x.2.1,c.1≠d.2.2.2.2.2:=fun c hc e=>by
   have h2:0≤D1 x.2.1 d.2.2.2.2.2:=C49 ⟨c,hc,by simp[e]⟩
   omega
  have e:(B2j x d).2.1=x.2.1.map (B5x d):=by rw[B7z k5]
  refine C7r (show B33 (B2j x d).1=true from C3a (x:=x) h) (by rw[e];simpa using hl1) (by rw[e];simpa using h8) hk1 (fun y hy=>?_) (fun i j hi hj hij=>?_) hrun
  ·rw[e]at hy
   obtain⟨c,hc,rfl⟩:=List.mem_map.mp hy
   have:=hcol c hc
   unfold B5x
   split
   ·simp only[B4j,zJ]at this⊢
    exact⟨⟨D2s hk k5,this.1.2⟩,this.2⟩
   ·exact this
  ·simp only[e,List.length_map]at hi hj
   simp only[e,List.getElem_map]at hij
   refine hu i j hi hj ?_
   unfold B5x at hij
   simp only[k5,true_and]at hij
   split at hij<;>split at hij
   ·rename_i a b;exact a.trans b.symm
   ·exact absurd hij.symm (hno _ (zL hj))
   ·exact absurd hij (hno _ (zL hi))
   ·exact hij
 have k4:d.1=4:=by rcases C0a hk with h|h|h|h|h<;>first|exact h|exact absurd h (by assumption)
 have e:(B2j x d).2.1=B4y x.2.1 d.2.2.2.2.1:=by rw[C08 k4]
 have hsub:(B4y x.2.1 d.2.2.2.2.1).Sublist x.2.1:=List.filter_sublist
 refine C7r (show B33 (B2j x d).1=true from C3a (x:=x) h) ?_ (by rw[e];exact Nat.le_trans hsub.length_le h8) hk1 (fun y hy=>hcol y (hsub.subset (by rw[←e];exact hy))) (fun i j hi hj hij=>?_) hrun
 · -- a key's column stays
  have hks:=C5l h
  obtain⟨k,hm⟩:∃k,k∈x.2.2:=⟨x.2.2[0],zL (by omega)⟩
  obtain⟨a1,_⟩:=C9m h hk hf k1 k2 hm
  obtain⟨p,ep,hp,_⟩:=C1n h hm
  have hn:=C1k h hf k4 hm
  have h0:0≤D1 (B2j x d).2.1 (B3h d k):=by
   rw[a1]
   unfold C48
   obtain⟨g,eg,hg⟩:=B9g k4 hf
   split<;>omega
  rcases B5q (B2j x d).2.1 (B3h d k)with c|⟨q,eq,hq,_⟩
  ·omega
  ·omega
 ·have hp:x.2.1.Pairwise fun a b=>a.1≠b.1:=List.pairwise_iff_getElem.mpr fun a b ha hb hab ee=>by
   have:=hu a b ha hb ee;omega
  have hp':((B2j x d).2.1).Pairwise fun a b=>a.1≠b.1:=by rw[e];exact hp.sublist hsub
  have h2:=List.pairwise_iff_getElem.mp hp'
  rcases zE1 i j with c|c
  ·exact absurd hij (h2 i j hi hj c)
  ·rcases zE1 j i with c2|c2
   ·exact absurd hij.symm (h2 j i hj hi c2)
   ·omega
theorem C03 {cs:B26}{r:B2w}:B4b cs r=true↔r.length=cs.length∧∀i (h1:i<cs.length) (h2:i<r.length),B8u cs[i] r[i]=true:=by
 simp only[B4b,zJ,zG]
 constructor
 ·rintro⟨h1,h2⟩
  refine⟨h1,fun i hi hi2=>?_⟩
  have:=B9a h2 hi
  rwa[getD_at hi2]at this
 ·rintro⟨h1,h2⟩
  refine⟨h1,(B3t _ _ _).mpr fun i hi=>?_⟩
  rw[zS,getD_at (show i<r.length by omega)]
  exact h2 i hi (by omega)
theorem C9o {c:B3n}(hc:B4j c=true)(hn:c.2.2.2.1=true∨c.2.2.1=false):B8u c c.2.2.2.2=true:=by
 simp only[B4j,zJ,zG]at hc
 obtain⟨⟨_,ht⟩,hd⟩:=hc
 unfold B8u
 by_cases hh:c.2.2.2.1=true
 ·rw[if_pos hh]at hd
  simp only[zJ,Bool.or_eq_true,zG]at hd
  simp only[hd.1,zG1]
  rcases hd.2 with e|⟨e,e2⟩
  ·rw[if_neg (by omega)];simpa using e
  ·rw[if_pos e];exact e2
 ·rw[if_neg hh]at hd
  have hnull:c.2.2.2.2=B8c:=by simpa using hd
  rw[hnull]
  have hz:c.2.2.1=false:=hn.resolve_left hh
  rw[hz]
  simp[B8c,B41]
theorem D09 {x:C3}(h:B25 x=true){s:ByteArray}{g:Nat}(eg:D1 x.2.1 s=(g:Int))(hg:g<x.2.1.length):B4y x.2.1 s=B2h x.2.1 g:=by
 have hu:=C09 h
 have hgn:x.2.1[g].1=s:=by
  rcases B5q x.2.1 s with c|⟨q,eq,hq,e⟩
  ·omega
  ·have:q=g:=by omega
   subst this;exact e
 rcases B9d s x.2.1 0 with⟨h1,_⟩|⟨m,h1,h2,h3⟩
 ·have:D1 x.2.1 s= -1:=h1
  omega
 ·have hmg:m=g:=by
   have:D1 x.2.1 s=((0+m:Nat):Int):=h2
   omega
  rw[h3,hmg]
  unfold B2h
  congr 1
  refine List.filter_eq_self.mpr fun c hc=>?_
  obtain⟨j,hj,rfl⟩:=List.mem_iff_getElem.mp hc
  rw[List.getElem_drop]
  simp only[List.length_drop]at hj
  rw[zK];rfl
  intro e
  have:=hu (g+1+j) g (by omega) hg (e.trans hgn.symm)
  omega
theorem D22 {x:C3}{d:B2g}{r:B4h}(hk:B3d d=true)(hf:B3k x d=0)(k1:¬d.1=1)(k2:¬d.1=2)(h:B25 x=true)(hr:B4b x.2.1 r=true):B4b (B2j x d).2.1 (B50 x d r)=true:=by
 obtain⟨hl,hfit⟩:=C03.mp hr
 by_cases k3:d.1=3
 ·obtain⟨c,hcs,hc,hn⟩:=D17 hk k3
  have e:B50 x d r=r++[c.2.2.2.2]:=by simp[B50,k3,hcs]
  have e2:(B2j x d).2.1=x.2.1++[c]:=by rw[C07 k3,hcs];rfl
  rw[e,e2]
  refine C03.mpr ⟨by simp[hl],fun i h1 h2=>?_⟩
  rw[List.getElem_append,List.getElem_append]
  by_cases ci:i<x.2.1.length
  ·rw[dif_pos ci,dif_pos (by omega)];exact hfit i ci (by omega)
  ·rw[dif_neg ci,dif_neg (by omega)]
   simp only[List.getElem_singleton]
   exact C9o hc hn
 by_cases k5:d.1=5
 ·have e:B50 x d r=r:=by simp[B50,k5]
  have e2:(B2j x d).2.1=x.2.1.map (B5x d):=by rw[B7z k5]
  rw[e,e2]
  refine C03.mpr ⟨by simp[hl],fun i h1 h2=>?_⟩
  rw[List.getElem_map]
  have:=hfit i (by simpa using h1) h2
  unfold B5x
  split
  ·exact this
  ·exact this
 have k4:d.1=4:=by rcases C0a hk with h|h|h|h|h<;>first|exact h|exact absurd h (by assumption)
 obtain⟨g,eg,hg⟩:=B9g k4 hf
 have e:B50 x d r=B2h r g:=by simp[B50,k4,eg]
 have e2:(B2j x d).2.1=B2h x.2.1 g:=by rw[C08 k4];exact D09 h eg hg
 rw[e,e2]
 have l1:(B2h x.2.1 g).length=x.2.1.length - 1:=by simp[B2h];omega
 have l2:(B2h r g).length=r.length - 1:=by simp[B2h];omega
 refine C03.mpr ⟨by omega,fun i h1 h2=>?_⟩
 obtain⟨a1,a2⟩:=B84 h1
 obtain⟨b1,b2⟩:=B84 h2
 rw[a2,b2]
 exact hfit _ a1 b1
theorem C9a {x:C3}{d:B2g}{r:B4h}(hk:B3d d=true)(hf:B3k x d=0)(k1:¬d.1=1)(k2:¬d.1=2)(h:B25 x=true)(hr:B4b x.2.1 r=true):B2i (B2j x d).2.1 (B2j x d).2.2 (B50 x d r)=B2i x.2.1 x.2.2 r:=by
 obtain⟨hl,_⟩:=C03.mp hr
 unfold B2i
 rw[show(B2j x d).2.2=x.2.2.map (B3h d)from rfl,List.map_map]
 refine List.map_congr_left fun k hm=>?_
 simp only[Function.comp]
 obtain⟨a1,_⟩:=C9m h hk hf k1 k2 hm
 obtain⟨p,ep,hp,_⟩:=C1n h hm
 rw[a1,ep]
 by_cases k4:d.1=4
 ·obtain⟨g,eg,hg⟩:=B9g k4 hf
  have hn:=C1k h hf k4 hm
  have e:B50 x d r=B2h r g:=by simp[B50,k4,eg]
  have l2:(B2h r g).length=r.length - 1:=by simp[B2h];omega
  rw[e]
  unfold C48
  rw[eg]
  by_cases c:g<p
  ·rw[if_pos ⟨k4,by omega⟩]
   have hq:p - 1<(B2h r g).length:=by omega
   rw[show((p:Int) - 1).toNat=p - 1 by omega,getD_at hq,zE,getD_at (show p<r.length by omega)]
   obtain⟨b1,b2⟩:=B84 hq
   rw[b2]
   congr 1
   rw[if_neg (by omega)];omega
  ·rw[if_neg (by rintro⟨_,h⟩;omega)]
   have hq:p<(B2h r g).length:=by omega
   rw[zE,getD_at hq,getD_at (show p<r.length by omega)]
   obtain⟨b1,b2⟩:=B84 hq
   rw[b2]
   congr 1
   rw[if_pos (by omega)]
 ·have ec:C48 x d (p:Int)=(p:Int):=by simp[C48,k4]
  rw[ec,zE]
  by_cases k3:d.1=3
  ·have e:B50 x d r=r++[(d.2.2.1.getD 0 CZ).2.2.2.2]:=by simp[B50,k3]
   rw[e,getD_at (show p<(r++[(d.2.2.1.getD 0 CZ).2.2.2.2]).length by simp;omega),List.getElem_append_left (by omega),getD_at (show p<r.length by omega)]
  ·have e:B50 x d r=r:=by simp[B50,k3,k4]
   rw[e]
theorem D12 {x:C3}{l:B28}{d:B2g}(hr:B3p x l=true)(hk:B3d d=true)(hf:B3k x d=0)(k1:¬d.1=1)(k2:¬d.1=2):B3p (B2j x d) (l.map (B50 x d))=true:=by
 obtain⟨ht,h60,hin⟩:=B7f hr
 refine C70 (C92 ht hk hf k1 k2) (by rw[List.length_map];exact h60) (fun r hm=>?_) fun k hk'=>?_
 ·obtain⟨r0,h0,rfl⟩:=List.mem_map.mp hm
  exact D22 hk hf k1 k2 ht (hin r0 h0)
 ·have hk2:k+1<l.length:=by simpa using hk'
  rw[List.getElem_map,List.getElem_map,C9a hk hf k1 k2 ht (hin _ (zL _)),C9a hk hf k1 k2 ht (hin _ (zL _))]
  exact D0i hr k (k+1) (by omega) hk2
theorem B3a.bind {α γ:Type}{b:List Int}{P:α→Prop}{Q:Option γ→Prop}{r:Option (α×(((List Int)×(Int×Int))×Unit))}{f:α×(((List Int)×(Int×Int))×Unit)→Option γ}
  (h:B3a b P r) (hf:∀x i g,0≤i→P x→Q (f (x,((b,(i,g)),())))):Q (r.bind f):=by
 obtain⟨x,i,g,rfl,hi,px⟩:=h
 exact hf x i g hi px
theorem B3e {γ:Type}{Q:Option γ→Prop}{c:Bool}{A B:Option γ}(h1:c=true→Q A)(h0:c=false→Q B):Q (bif c then A else B):=by
 cases c
 ·exact h0 rfl
 ·exact h1 rfl
theorem B89 {γ:Type}{Q:Option γ→Prop}{c:Bool}{A:Option γ}(hc:c=true)(h:Q A):Q (bif c then A else none):=by
 subst hc;exact h
theorem B3a.mk {α:Type}{b:List Int}{P:α→Prop}{x:α}{i g:Int}(hi:0≤i)(hp:P x):B3a b P (some (x,((b,(i,g)),()))):=⟨x,i,g,rfl,hi,hp⟩
theorem B3a.mono {α:Type}{b:List Int}{P Q:α→Prop}{r:Option (α×(((List Int)×(Int×Int))×Unit))}(h:B3a b P r)(hq:∀x,P x→Q x):B3a b Q r:=by
 obtain⟨x,i,g,e,hi,px⟩:=h
 exact⟨x,i,g,e,hi,hq x px⟩
theorem C1f {x:Int}{m n:Nat}(hm:0<m)(hn:m=n)(q:((0:Int)<(m:Int)→0≤x∧x<(m:Int))∧((m:Int)≤0→x=0)):inR x n=true:=by
 obtain⟨h1,h2⟩:=q.1 (by omega)
 exact zD ⟨h1,by omega⟩
theorem C31 {l:List ByteArray}{k:Nat}{m:Nat}(h:∀x∈l,x.size≤m):(l.getD k E0).size≤m:=by
 by_cases hk:k<l.length
 ·rw[getD_at hk];exact h _ (zL hk)
 ·rw[List.getD,List.getElem?_eq_none (by omega)];exact Nat.zero_le _
theorem C1g:EV fun n=>∀(b:List Int) (i h:Int),b.length≤1048576→0≤i→B3a b (fun s:ByteArray=>s.size≤9) (B4d n b i h):=B4w.up fun n hW b i h hb hi=>by
 simp only[B4d]
 refine(hW b i h 6 hb hi (by omega)).bind fun x i1 g1 p1 q1=>?_
 refine B89 (C1f (m:=6) (by decide) (by decide) q1) (.mk p1 (C31 ?_))
 decide
theorem C2z:EV fun n=>∀(b:List Int) (i h:Int) (w:ByteArray),b.length≤1048576→0≤i→w.size≤1048576→B3a b (B6d 1048576) (B78 n b i h w):=(B4w.and C55).up fun n ⟨hW,hO⟩ b i h w hb hi hw=>by
 simp only[B78]
 refine(hW b i h 3 hb hi (by omega)).bind fun x1 i1 g1 p1 q1=>?_
 refine(hW b i1 g1 3 hb p1 (by omega)).bind fun x2 i2 g2 p2 q2=>?_
 refine(hW b i2 g2 2 hb p2 (by omega)).bind fun x3 i3 g3 p3 q3=>?_
 refine B3e (fun _=>?_) fun _=> .mk p3 ⟨hw,Nat.zero_le _⟩
 refine(hO b i3 g3 _ hb p3).bind fun v i4 g4 p4 q4=>?_
 have hv:B8d 1048576 v:=Nat.le_trans q4 (by decide)
 exact B3e (fun _=>B3e (fun _=> .mk p4 ⟨hw,Nat.zero_le _⟩) fun _=> .mk p4 ⟨hw,hv⟩) fun _=> .mk p4 ⟨hw,hv⟩
def B3c (m:Nat)(t:C3):Prop:=t.1.size≤9∧1≤t.2.1.length∧t.2.1.length≤m∧t.2.2.length≤m∧(∀c∈t.2.1,B6d 1048576 c)∧∀k∈t.2.2,k.size≤1048576
theorem B3c.mono {m n:Nat}{t:C3}(h:B3c m t)(hm:m≤n):B3c n t:=⟨h.1,h.2.1,by have:=h.2.2.1;omega,by have:=h.2.2.2.1;omega,h.2.2.2.2⟩
theorem B3c.sm {m:Nat}{t:C3}(h:B3c m t)(hm:m≤1048576):B2t 1048576 t:=⟨Nat.le_trans h.1 (by decide),⟨Nat.le_trans h.2.2.1 hm,h.2.2.2.2.1⟩,⟨Nat.le_trans h.2.2.2.1 hm,h.2.2.2.2.2⟩⟩
theorem D34:B6d 1048576 CZ:=⟨Nat.zero_le _,Nat.zero_le _⟩
theorem C1m {l:B26}{k:Nat}(h:∀c∈l,B6d 1048576 c):B6d 1048576 (l.getD k CZ):=by
 by_cases hk:k<l.length
 ·rw[getD_at hk];exact h _ (zL hk)
 ·rw[List.getD,List.getElem?_eq_none (by omega)];exact D34
theorem D2f {l:B26}{k:Nat}{c:B3n}(h:∀c∈l,B6d 1048576 c)(hc:B6d 1048576 c):∀x∈l.set k c,B6d 1048576 x:=by
 intro x hx
 rcases List.mem_or_eq_of_mem_set hx with e|e
 ·exact h x e
 ·rw[e];exact hc
theorem C30:EV fun n=>∀(b:List Int) (i h:Int) (w:ByteArray),b.length≤1048576→0≤i→w.size≤9→B3a b (B3c 5) (B6t n b i h w):=(B4w.and (C1g.and (C2z.and (B6z.and (EV.gt 10))))).up fun n ⟨hW,hS,hC,hA,hn⟩ b i h w hb hi hw=>by
 simp only[B6t]
 refine(hW b i h 4 hb hi (by omega)).bind fun x i1 g1 p1 q1=>?_
 have q1:=q1.1 (by omega)
 obtain⟨m,rfl⟩:=Int.eq_ofNat_of_zero_le q1.1
 have loop:∀(m j:Nat) (i g:Int) (e:ByteArray) (cs:B26),m<j→0≤i→B3c 4 (w,(cs,[⟨#[105,100]⟩]))→cs.length+m≤4→B3a b (B3c 5) (B45 n j (m:Int) b i g e [] [] w cs [⟨#[105,100]⟩]):=by
  intro m
  induction m with
  |zero=>
   intro j i g e cs hj hi ht hm
   obtain⟨j,rfl⟩:∃j',j=j'+1:=⟨j - 1,by omega⟩
   have hl:=ht.2.1
   simp only at hl
   have w1:IntKind.wrap .i64 ((cs.length:Int) - (1:Int))=((cs.length - 1:Nat):Int):=by rw[wrap64]<;>omega
   have e0:decide ((0:Int)<((0:Nat):Int))=false:=rfl
   simp only[B45,e0,zA,w1,D4 (show cs.length - 1<cs.length by omega),zB,zE]
   refine B3e (fun _=>B3e (fun _=>?_) fun _=> .mk hi (ht.mono (by omega))) fun _=> .mk hi (ht.mono (by omega))
   refine(hW b i g 3 hb hi (by omega)).bind fun x i2 g2 p2 q2=>?_
   refine B3e (fun _=>B89 (by simp[room]) (.mk p2 ?_)) fun _=> .mk p2 (ht.mono (by omega))
   refine⟨ht.1,ht.2.1,Nat.le_trans ht.2.2.1 (by omega),by simp,ht.2.2.2.2.1,fun k hk=>?_⟩
   rcases zY.mp hk with hk|hk
   ·exact ht.2.2.2.2.2 k hk
   ·rw[zF1.mp hk];exact(C1m ht.2.2.2.2.1).1
  |succ m ih=>
   intro j i g e cs hj hi ht hm
   obtain⟨j,rfl⟩:∃j',j=j'+1:=⟨j - 1,by omega⟩
   have e0:decide ((0:Int)<((m+1:Nat):Int))=true:=zD (by omega)
   have w1:IntKind.wrap .i64 (((m+1:Nat):Int) - (1:Int))=(m:Int):=by rw[wrap64]<;>omega
   simp only[B45,e0,zB,w1]
   refine(hS b i g hb hi).bind fun s i2 g2 p2 q2=>?_
   have hs:s.size≤1048576:=Nat.le_trans q2 (by decide)
   have hcl:cs.length≤1048576:=by omega
   simp only[hA w cs [⟨#[105,100]⟩] s hcl,zC]
   refine B3e (fun _=>?_) fun _=>ih j i2 g2 e cs (by omega) p2 ht (by omega)
   refine(hC b i2 g2 s hb p2 hs).bind fun c i3 g3 p3 q3=>?_
   refine B89 (by simp[room];omega) (ih j i3 g3 e _ (by omega) p3 ?_ (by simp;omega))
   refine⟨ht.1,by simp,by simp;omega,ht.2.2.2.1,fun x hx=>?_,ht.2.2.2.2.2⟩
   rcases zY.mp hx with hx|hx
   ·exact ht.2.2.2.2.1 x hx
   ·rw[zF1.mp hx];exact q3
 refine loop m n i1 g1 E0 _ (by omega) p1 ⟨hw,by simp,by simp,by simp,fun c hc=>?_,fun k hk=>?_⟩ (by simp;omega)
 ·rw[zF1.mp hc];exact⟨by decide,Nat.zero_le _⟩
 ·rw[zF1.mp hk];decide
theorem in0 {m:Nat}(h:1≤m):inR (0:Int) m=true:=D4 (k:=0) h
theorem C7t {m:Nat}{nm:ByteArray}{cs:B26}{ks:A7d}{k:Nat}{c:B3n}(h:B3c m (nm,(cs,ks)))(hc:B6d 1048576 c):B3c m (nm,(cs.set k c,ks)):=
 ⟨h.1,by have:=h.2.1;simpa using this,by have:=h.2.2.1;simpa using this,h.2.2.2.1,D2f h.2.2.2.2.1 hc,h.2.2.2.2.2⟩
theorem C87:EV fun n=>∀(b:List Int) (i h:Int),b.length≤1048576→0≤i→B3a b (B3c 8) (B9m n b i h):=(B4w.and (C1g.and (C6t.and C30))).up fun n ⟨hW,hS,hA,hT⟩ b i h hb hi=>by
 have k7:∀(i g:Int) (e1:ByteArray) (e2:B26) (e3:A7d) (nm:ByteArray) (cs:B26) (ks:A7d),0≤i→B3c 8 (nm,(cs,ks))→B3a b (B3c 8) (B6l n 1 b i g e1 e2 e3 nm cs ks):=by
  intro i g e1 e2 e3 nm cs ks hi ht
  simp only[B6l]
  exact .mk hi ht
 have k6:∀(k i g:Int) (e1:ByteArray) (e2:B26) (e3:A7d) (nm:ByteArray) (cs:B26) (ks:A7d),0≤i→B3c 8 (nm,(cs,ks))→B3a b (B3c 8) (B6k n 1 k b i g e1 e2 e3 nm cs ks):=by
  intro k i g e1 e2 e3 nm cs ks hi ht
  simp only[B6k]
  exact B3e (fun _=>B89 (in0 ht.2.1) (k7 _ _ _ _ _ _ _ _ hi (C7t ht (C1m ht.2.2.2.2.1)))) fun _=>k7 _ _ _ _ _ _ _ _ hi ht
 have k5:∀(k i g:Int) (e1:ByteArray) (e2:B26) (e3:A7d) (nm:ByteArray) (cs:B26) (ks:A7d),0≤i→B3c 8 (nm,(cs,ks))→B3a b (B3c 8) (B6j n 1 k b i g e1 e2 e3 nm cs ks):=by
  intro k i g e1 e2 e3 nm cs ks hi ht
  simp only[B6j]
  exact B3e (fun _=>k6 _ _ _ _ _ _ _ _ _ hi ⟨ht.1,ht.2.1,ht.2.2.1,Nat.zero_le _,ht.2.2.2.2.1,fun k hk=>by cases hk⟩) fun _=>k6 _ _ _ _ _ _ _ _ _ hi ht
 have k4:∀(k c i g:Int) (e1:ByteArray) (e2:B26) (e3:A7d) (nm:ByteArray) (cs:B26) (ks:A7d),0≤i→inR c cs.length=true→B3c 7 (nm,(cs,ks))→B3a b (B3c 8) (B6i n 1 k c b i g e1 e2 e3 nm cs ks):=by
  intro k c i g e1 e2 e3 nm cs ks hi hc ht
  simp only[B6i]
  have hl:=ht.2.2.1
  simp only at hl
  refine B3e (fun _=>B89 hc (B89 (by simp[room];omega) (k5 _ _ _ _ _ _ _ _ _ hi ⟨ht.1,by simp,by simp;omega,Nat.le_trans ht.2.2.2.1 (by decide),fun x hx=>?_,ht.2.2.2.2.2⟩))) fun _=>k5 _ _ _ _ _ _ _ _ _ hi (ht.mono (by decide))
  rcases zY.mp hx with hx|hx
  ·exact ht.2.2.2.2.1 x hx
  ·rw[zF1.mp hx];exact C1m (l:=cs) ht.2.2.2.2.1
 have k3:∀(k c i g:Int) (e1:ByteArray) (e2:B26) (e3:A7d) (nm:ByteArray) (cs:B26) (ks:A7d),0≤i→inR c cs.length=true→B3c 6 (nm,(cs,ks))→B3a b (B3c 8) (B6h n 1 k c b i g e1 e2 e3 nm cs ks):=by
  intro k c i g e1 e2 e3 nm cs ks hi hc ht
  simp only[B6h]
  have hl:=ht.2.2.2.1
  simp only at hl
  refine B3e (fun _=>?_) fun _=>k4 _ _ _ _ _ _ _ _ _ _ hi hc (ht.mono (by decide))
  refine(hS b i g hb hi).bind fun s i2 g2 p2 q2=>?_
  refine B89 (by simp[room];omega) (k4 _ _ _ _ _ _ _ _ _ _ p2 hc ⟨ht.1,ht.2.1,Nat.le_trans ht.2.2.1 (by decide),by simp;omega,ht.2.2.2.2.1,fun x hx=>?_⟩)
  rcases zY.mp hx with hx|hx
  ·exact ht.2.2.2.2.2 x hx
  ·rw[zF1.mp hx];exact Nat.le_trans q2 (by decide)
 have k2:∀(k c i g:Int) (e1:ByteArray) (e2:B26) (e3:A7d) (nm:ByteArray) (cs:B26) (ks:A7d),0≤i→inR c cs.length=true→B3c 6 (nm,(cs,ks))→B3a b (B3c 8) (B6g n 1 k c b i g e1 e2 e3 nm cs ks):=by
  intro k c i g e1 e2 e3 nm cs ks hi hc ht
  simp only[B6g]
  refine B3e (fun _=>?_) fun _=>k3 _ _ _ _ _ _ _ _ _ _ hi hc ht
  refine(hA b i g hb hi).bind fun v i2 g2 p2 q2=>?_
  exact B89 hc (k3 _ _ _ _ _ _ _ _ _ _ p2 (by rw[List.length_set];exact hc) (C7t ht ⟨(C1m (l:=cs) ht.2.2.2.2.1).1,Nat.le_trans q2 (by decide)⟩))
 have k1:∀(k c i g:Int) (e1:ByteArray) (e2:B26) (e3:A7d) (nm:ByteArray) (cs:B26) (ks:A7d),0≤i→inR c cs.length=true→B3c 6 (nm,(cs,ks))→B3a b (B3c 8) (B6f n 1 k c b i g e1 e2 e3 nm cs ks):=by
  intro k c i g e1 e2 e3 nm cs ks hi hc ht
  simp only[B6f]
  refine B3e (fun _=>?_) fun _=>k2 _ _ _ _ _ _ _ _ _ _ hi hc ht
  refine(hW b i g 6 hb hi (by omega)).bind fun v i2 g2 p2 q2=>?_
  exact B89 hc (k2 _ _ _ _ _ _ _ _ _ _ p2 (by rw[List.length_set];exact hc) (C7t ht (C1m (l:=cs) ht.2.2.2.2.1)))
 simp only[B9m]
 refine(hT b i h _ hb hi (by decide)).bind fun t i1 g1 p1 q1=>?_
 have hl1:=q1.2.1
 have hl5:=q1.2.2.1
 refine(hW b i1 g1 14 hb p1 (by omega)).bind fun x i2 g2 p2 q2=>?_
 refine(hW b i2 g2 (t.2.1.length:Int) hb p2 (by omega)).bind fun y i3 g3 p3 q3=>?_
 have hy:=C1f (show 0<t.2.1.length by omega) rfl q3
 refine B3e (fun _=>?_) fun _=>k1 _ _ _ _ _ _ _ _ _ _ p3 hy (q1.mono (by decide))
 refine(hW b i3 g3 3 hb p3 (by omega)).bind fun z i4 g4 p4 q4=>?_
 refine B89 (C1f (m:=3) (by decide) (by decide) q4) (k1 _ _ _ _ _ _ _ _ _ _ p4 hy ?_)
 have:=q1.mono (n:=6) (by decide)
 exact⟨C31 (by decide),this.2⟩
theorem room_le {m n k:Nat}(h:m≤n)(hn:n*k≤140737488355328)(hk:n≤140737488355328):room m k=true:=by
 simp only[room,zG]
 exact⟨Nat.le_trans (Nat.mul_le_mul_right k h) hn,Nat.le_trans h hk⟩
theorem D0t:EV fun n=>∀(b:List Int) (i h:Int) (t:C3),b.length≤1048576→0≤i→t.2.1.length≤20→B3a b (fun r:B2w=>r.length=t.2.1.length∧∀v∈r,B8d 1048576 v) (B8n n b i h t.1 t.2.1 t.2.2):=(C55.and (EV.gt 30)).up fun n ⟨hO,hn⟩ b i h t hb hi ht=>by
 obtain⟨nm,cs,ks⟩:=t
 simp only at ht⊢
 have loop:∀(m j k:Nat) (i g:Int) (e r:B2w),k+m=cs.length→m<j→0≤i→r.length=k→(∀v∈r,B8d 1048576 v)→B3a b (fun r:B2w=>r.length=cs.length∧∀v∈r,B8d 1048576 v) (B39 n j cs (cs.length:Int) (k:Int) b i g e r):=by
  intro m
  induction m with
  |zero=>
   intro j k i g e r hk hj hi hr hv
   obtain⟨j,rfl⟩:∃j',j=j'+1:=⟨j - 1,by omega⟩
   have e0:decide ((k:Int)<(cs.length:Int))=false:=zK (by omega)
   simp only[B39,e0,zA]
   exact .mk hi ⟨by omega,hv⟩
  |succ m ih=>
   intro j k i g e r hk hj hi hr hv
   obtain⟨j,rfl⟩:∃j',j=j'+1:=⟨j - 1,by omega⟩
   have e0:decide ((k:Int)<(cs.length:Int))=true:=zD (by omega)
   have hk1:k<cs.length:=by omega
   simp only[B39,e0,zB,D4 hk1,R2 hk1 (by omega)]
   refine(hO b i g _ hb hi).bind fun v i2 g2 p2 q2=>?_
   have hv2:B8d 1048576 v:=Nat.le_trans q2 (by decide)
   have inner:∀(q j2 x:Nat) (i g:Int) (c:B3n) (v:B5d),x+q=9→q<j2→0≤i→B8d 1048576 v→
     B3a b (fun r:B2w=>r.length=cs.length∧∀v∈r,B8d 1048576 v) (B4u n (fun y40 y41 y42 y43 y44 y45 y46 y47=>B39 n j y40 y41 y42 y43 y44 y45 y46 y47) j2 (x:Int) cs (cs.length:Int) (k:Int) b i g e r c.1 c.2.1 c.2.2.1 c.2.2.2.1 c.2.2.2.2.1 c.2.2.2.2.2.1 c.2.2.2.2.2.2 v.1 v.2.1 v.2.2):=by
    intro q
    have fin:∀(i g:Int) (v:B5d),0≤i→B8d 1048576 v→B3a b (fun r:B2w=>r.length=cs.length∧∀v∈r,B8d 1048576 v) (B39 n j cs (cs.length:Int) ((k+1:Nat):Int) b i g e (r++[v])):=by
     intro i g v hi hsv
     refine ih j (k+1) i g e _ (by omega) (by omega) hi (by simp;omega) fun x hx=>?_
     rcases zY.mp hx with hx|hx
     ·exact hv x hx
     ·rw[zF1.mp hx];exact hsv
    have hroom:∀v:B5d,room (r.length+[v].length) 32=true:=fun v=>room_le (n:=40) (by simp;omega) (by decide) (by decide)
    induction q with
    |zero=>
     intro j2 x i g c v hx hj2 hi hsv
     obtain⟨j2,rfl⟩:∃j',j2=j'+1:=⟨j2 - 1,by omega⟩
     have e0:decide ((x:Int)<(9:Int))=false:=zK (by omega)
     simp only[B4u,e0,zA,R2 hk1 (by omega)]
     exact B89 (hroom _) (fin i g v hi hsv)
    |succ q ih2=>
     intro j2 x i g c v hx hj2 hi hsv
     obtain⟨j2,rfl⟩:∃j',j2=j'+1:=⟨j2 - 1,by omega⟩
     have e0:decide ((x:Int)<(9:Int))=true:=zD (by omega)
     simp only[B4u,e0,zB,R2 hk1 (by omega),R2 (show x<9 by omega) (by omega)]
     refine B3e (fun _=>B3e (fun _=>?_) fun _=>B89 (hroom _) (fin i g v hi hsv)) fun _=>B89 (hroom _) (fin i g v hi hsv)
     refine(hO b i g _ hb hi).bind fun v2 i2 g2 p2 q2=>?_
     exact ih2 j2 (x+1) i2 g2 c v2 (by omega) (by omega) p2 (Nat.le_trans q2 (by decide))
   exact inner 9 n 0 i2 g2 (cs.getD k CZ) v (by omega) (by omega) p2 hv2
 simp only[B8n]
 exact loop cs.length n 0 i h [] [] (by omega) (by omega) hi rfl (fun v hv=>by cases hv)
theorem D0r {x:C3}{l:B28}{r:B4h}(_:B2t 1048576 x)(hl:B5u 1048576 l)(hr:C36 1048576 r):B5u 1048576 (C47 x l r).1:=by
 unfold C47
 split
 ·rename_i h
  have h60:=(B7f h).2.1
  split
  ·split
   ·exact C1q
   ·split
    ·exact C1q
    ·refine⟨by rw[D10];omega,fun y hy=>?_⟩
     rcases D11 hy with e|e
     ·exact hl.2 y e
     ·rw[e];exact hr
  ·exact C1q
 ·exact C1q
theorem D0b:EV fun n=>∀(b:List Int) (i h:Int) (t:C3),b.length≤1048576→0≤i→t.2.1.length≤20→B2t 1048576 t→1≤t.2.1.length→B3a b (fun l:B28=>B5u 1048576 l∧l.length≤60∧∀r∈l,1≤r.length) (B8p n b i h t.1 t.2.1 t.2.2):=(B4w.and (D0t.and (C74.and (EV.gt 10)))).up fun n ⟨hW,hR,hP,hn⟩ b i h t hb hi ht hs h1=>by
 have loop:∀(m j:Nat) (i g:Int) (l:B28),m<j→m≤10→0≤i→(B5u 1048576 l∧l.length≤60∧∀r∈l,1≤r.length)→B3a b (fun l:B28=>B5u 1048576 l∧l.length≤60∧∀r∈l,1≤r.length) (B46 n j (m:Int) b i g t.1 t.2.1 t.2.2 l):=by
  intro m
  induction m with
  |zero=>
   intro j i g l hj h10 hi hl
   obtain⟨j,rfl⟩:∃j',j=j'+1:=⟨j - 1,by omega⟩
   have e0:decide ((0:Int)<((0:Nat):Int))=false:=rfl
   simp only[B46,e0,zA]
   exact .mk hi hl
  |succ m ih=>
   intro j i g l hj h10 hi hl
   obtain⟨j,rfl⟩:∃j',j=j'+1:=⟨j - 1,by omega⟩
   have e0:decide ((0:Int)<((m+1:Nat):Int))=true:=zD (by omega)
   have w1:IntKind.wrap .i64 (((m+1:Nat):Int) - (1:Int))=(m:Int):=by rw[wrap64]<;>omega
   simp only[B46,e0,zB,w1]
   refine(hR b i g t hb hi ht).bind fun r i2 g2 p2 q2=>?_
   have hr:C36 1048576 r:=⟨by omega,q2.2⟩
   simp only[hP t l r hs hl.1 hr.1,zC,B2r]
   refine B3e (fun hz=>ih j i2 g2 _ (by omega) (by omega) p2 ⟨D0r hs hl.1 hr,?_⟩) fun _=>ih j i2 g2 _ (by omega) (by omega) p2 hl
   unfold C47
   split
   ·split
    ·split
     ·exact⟨Nat.zero_le _,fun r hr=>by cases hr⟩
     ·split
      ·exact⟨Nat.zero_le _,fun r hr=>by cases hr⟩
      ·have hlen:(B6o t l r).length=l.length+1:=by
        have:=congrArg List.length (List.takeWhile_append_dropWhile (p:=C1l t r) (l:=l))
        simp only[B6o,List.length_append,zW,zX]at this⊢
        omega
       refine⟨by have:=hl.2.1;simp only[hlen];omega,fun x hx=>?_⟩
       simp only[B6o,zY,zF1]at hx
       rcases hx with(hx|hx)|hx
       ·exact hl.2.2 x ((List.takeWhile_sublist _).subset hx)
       ·rw[hx];omega
       ·exact hl.2.2 x ((List.dropWhile_sublist _).subset hx)
    ·exact⟨Nat.zero_le _,fun r hr=>by cases hr⟩
   ·exact⟨Nat.zero_le _,fun r hr=>by cases hr⟩
 simp only[B8p]
 refine(hW b i h 7 hb hi (by omega)).bind fun x i1 g1 p1 q1=>?_
 have q1:=q1.1 (by omega)
 obtain⟨m,rfl⟩:=Int.eq_ofNat_of_zero_le q1.1
 exact loop m n i1 g1 [] (by omega) (by omega) p1 ⟨C1q,Nat.zero_le _,fun r hr=>by cases hr⟩
def B8q {α β:Type}(b:List Int)(P:α→β→Prop)(r:Option (α×(β×(((List Int)×(Int×Int))×Unit)))):Prop:=∃x y i h,r=some (x,(y,((b,(i,h)),())))∧0≤i∧P x y
theorem B8q.mk {α β:Type}{b:List Int}{P:α→β→Prop}{x:α}{y:β}{i g:Int}(hi:0≤i)(hp:P x y):B8q b P (some (x,(y,((b,(i,g)),())))):=⟨x,y,i,g,rfl,hi,hp⟩
theorem B8q.bind {α β γ:Type}{b:List Int}{P:α→β→Prop}{Q:Option γ→Prop}{r:Option (α×(β×(((List Int)×(Int×Int))×Unit)))}{f:α×(β×(((List Int)×(Int×Int))×Unit))→Option γ}
  (h:B8q b P r) (hf:∀x y i g,0≤i→P x y→Q (f (x,(y,((b,(i,g)),()))))):Q (r.bind f):=by
 obtain⟨x,y,i,g,rfl,hi,px⟩:=h
 exact hf x y i g hi px
def B69 (m:Nat)(l:B28):Prop:=B5u 1048576 l∧l.length≤m∧∀r∈l,1≤r.length
theorem B69.mono {m n:Nat}{l:B28}(h:B69 m l)(hm:m≤n):B69 n l:=⟨h.1,Nat.le_trans h.2.1 hm,h.2.2⟩
theorem B69.set {m k:Nat}{l:B28}{r:B4h}(h:B69 m l)(hr:C36 1048576 r)(h1:1≤r.length):B69 m (l.set k r):=
 ⟨⟨by rw[List.length_set];exact h.1.1,fun x hx=>by
   rcases List.mem_or_eq_of_mem_set hx with e|e
   ·exact h.1.2 x e
   ·rw[e];exact hr⟩,by rw[List.length_set];exact h.2.1,fun x hx=>by
   rcases List.mem_or_eq_of_mem_set hx with e|e
   ·exact h.2.2 x e
   ·rw[e];exact h1⟩
theorem B69.add {m:Nat}{l:B28}{r:B4h}(h:B69 m l)(hm:m<1048576)(hr:C36 1048576 r)(h1:1≤r.length):B69 (m+1) (l++[r]):=by
 have hl:=h.2.1
 refine⟨⟨by simp;omega,fun x hx=>?_⟩,by simp;omega,fun x hx=>?_⟩
 ·rcases zY.mp hx with hx|hx
  ·exact h.1.2 x hx
  ·rw[zF1.mp hx];exact hr
 ·rcases zY.mp hx with hx|hx
  ·exact h.2.2 x hx
  ·rw[zF1.mp hx];exact h1
theorem D2g {r:B4h}{k:Nat}{v:B5d}(h:C36 1048576 r)(hv:B8d 1048576 v):C36 1048576 (r.set k v):=
 ⟨by rw[List.length_set];exact h.1,fun x hx=>by
  rcases List.mem_or_eq_of_mem_set hx with e|e
  ·exact h.2 x e
  ·rw[e];exact hv⟩
theorem C6s:EV fun n=>∀(b:List Int) (i h:Int),b.length≤1048576→0≤i→B8q b (fun t l=>B3c 8 t∧B69 70 l) (B9q n b i h):=(B4w.and (C6t.and (C30.and (C87.and (D0b.and (EV.gt 100)))))).up fun n ⟨hW,hV,hT,hA,hR,hn⟩ b i h hb hi=>by
 have k6:∀(i g:Int) (e1:ByteArray) (e2:B26) (e3:A7d) (t:C3) (l:B28),0≤i→B3c 8 t→B69 70 l→B8q b (fun t l=>B3c 8 t∧B69 70 l) (B5n n 1 b i g e1 e2 e3 t.1 t.2.1 t.2.2 l):=by
  intro i g e1 e2 e3 t l hi ht hl
  simp only[B5n]
  exact .mk hi ⟨ht,hl⟩
 have loop:∀(m j k:Nat) (i g:Int) (e1:ByteArray) (e2:B26) (e3:A7d) (t:C3) (l:B28),k+m=65→m<j→0≤i→B3c 8 t→B69 k l→B8q b (fun t l=>B3c 8 t∧B69 70 l) (B5o n j (k:Int) b i g e1 e2 e3 t.1 t.2.1 t.2.2 l):=by
  intro m
  induction m with
  |zero=>
   intro j k i g e1 e2 e3 t l hk hj hi ht hl
   obtain⟨j,rfl⟩:∃j',j=j'+1:=⟨j - 1,by omega⟩
   simp only[B5o]
   refine(hW b i g 3 hb hi (by omega)).bind fun x i2 g2 p2 q2=>?_
   have q2:=q2.1 (by omega)
   have w1:IntKind.wrap .i64 ((59:Int)+x)=59+x:=by rw[wrap64]<;>omega
   have e0:decide ((k:Int)<59+x)=false:=zK (by omega)
   simp only[w1,e0,zA]
   exact k6 _ _ _ _ _ _ _ p2 ht (hl.mono (by omega))
  |succ m ih=>
   intro j k i g e1 e2 e3 t l hk hj hi ht hl
   obtain⟨j,rfl⟩:∃j',j=j'+1:=⟨j - 1,by omega⟩
   simp only[B5o]
   refine(hW b i g 3 hb hi (by omega)).bind fun x i2 g2 p2 q2=>?_
   refine B3e (fun _=>?_) fun _=>k6 _ _ _ _ _ _ _ p2 ht (hl.mono (by omega))
   have hl2:=hl.2.1
   rw[R2 (show k<65 by omega) (by omega)]
   exact B89 (room_le (n:=100) (by simp;omega) (by decide) (by decide)) (ih j (k+1) i2 g2 e1 e2 e3 t _ (by omega) (by omega) p2 ht (hl.add (by omega) ⟨by simp,fun v hv=>by rw[zF1.mp hv];exact Nat.zero_le _⟩ (by simp)))
 have k4:∀(k i g:Int) (e1:ByteArray) (e2:B26) (e3:A7d) (t:C3) (l:B28),0≤i→B3c 8 t→B69 61 l→B8q b (fun t l=>B3c 8 t∧B69 70 l) (B5m n 1 k b i g e1 e2 e3 t.1 t.2.1 t.2.2 l):=by
  intro k i g e1 e2 e3 t l hi ht hl
  simp only[B5m]
  refine B3e (fun _=>?_) fun _=>k6 _ _ _ _ _ _ _ hi ht (hl.mono (by omega))
  refine(hW b i g 5 hb hi (by omega)).bind fun x i2 g2 p2 q2=>?_
  refine B3e (fun _=>?_) fun _=>k6 _ _ _ _ _ _ _ p2 ht (hl.mono (by omega))
  refine loop 65 n 0 i2 g2 e1 e2 e3 (⟨#[116]⟩,([(⟨#[105,100]⟩,(2,(true,(false,(0,(0,E0))))))],[⟨#[105,100]⟩])) [] (by omega) (by omega) p2 ⟨by decide,by simp,by simp,by simp,fun c hc=>?_,fun k hk=>?_⟩ ⟨C1q,Nat.le_refl _,fun r hr=>by cases hr⟩
  ·rw[zF1.mp hc];exact⟨by decide,Nat.zero_le _⟩
  ·rw[zF1.mp hk];decide
 have k3:∀(k m i g:Int) (e1:ByteArray) (e2:B26) (e3:A7d) (t:C3) (l:B28),0≤i→B3c 8 t→B69 60 l→m=(l.length:Int)→B8q b (fun t l=>B3c 8 t∧B69 70 l) (B5l n 1 k m b i g e1 e2 e3 t.1 t.2.1 t.2.2 l):=by
  intro k m i g e1 e2 e3 t l hi ht hl hm
  subst hm
  have hl2:=hl.2.1
  simp only[B5l]
  refine B3e (fun _=>B3e (fun hp=>?_) fun _=>k4 _ _ _ _ _ _ _ _ hi ht (hl.mono (by omega))) fun _=>k4 _ _ _ _ _ _ _ _ hi ht (hl.mono (by omega))
  have hp:=of_decide_eq_true hp
  have w1:IntKind.wrap .i64 ((l.length:Int) - (1:Int))=((l.length - 1:Nat):Int):=by rw[wrap64]<;>omega
  have hlt:l.length - 1<l.length:=by omega
  simp only[w1,zE,getD_at hlt]
  exact B89 (D4 hlt) (B89 (room_le (n:=100) (by simp;omega) (by decide) (by decide)) (k4 _ _ _ _ _ _ _ _ hi ht (hl.add (by omega) (hl.1.2 _ (zL hlt)) (hl.2.2 _ (zL hlt)))))
 have k2:∀(k m i g:Int) (e1:ByteArray) (e2:B26) (e3:A7d) (t:C3) (l:B28),0≤i→B3c 8 t→B69 60 l→m=(l.length:Int)→B8q b (fun t l=>B3c 8 t∧B69 70 l) (B5k n 1 k m b i g e1 e2 e3 t.1 t.2.1 t.2.2 l):=by
  intro k m i g e1 e2 e3 t l hi ht hl hm
  subst hm
  have hl2:=hl.2.1
  simp only[B5k]
  refine B3e (fun _=>B3e (fun hp=>?_) fun _=>k3 _ _ _ _ _ _ _ _ _ hi ht hl rfl) fun _=>k3 _ _ _ _ _ _ _ _ _ hi ht hl rfl
  have hp:=of_decide_eq_true hp
  have w1:IntKind.wrap .i64 ((l.length:Int) - (1:Int))=((l.length - 1:Nat):Int):=by rw[wrap64]<;>omega
  have hlt:l.length - 1<l.length:=by omega
  have hlt0:0<l.length:=by omega
  simp only[w1,zE,show(0:Int).toNat=0 from rfl,getD_at hlt,getD_at hlt0]
  have s0:=hl.1.2 _ (zL hlt0)
  have s1:=hl.1.2 _ (zL hlt)
  have t0:=hl.2.2 _ (zL hlt0)
  have t1:=hl.2.2 _ (zL hlt)
  refine B89 (in0 hlt0) (B89 (D4 hlt) (B89 (in0 hlt0) (B89 (by rw[List.length_set];exact D4 hlt) (k3 _ _ _ _ _ _ _ _ _ hi ht ((hl.set s1 t1).set s0 t0) (by simp)))))
 have k1:∀(k m i g:Int) (e1:ByteArray) (e2:B26) (e3:A7d) (t:C3) (l:B28),0≤i→B3c 8 t→B69 60 l→m=(l.length:Int)→B8q b (fun t l=>B3c 8 t∧B69 70 l) (B6m n 1 k m b i g e1 e2 e3 t.1 t.2.1 t.2.2 l):=by
  intro k m i g e1 e2 e3 t l hi ht hl hm
  subst hm
  simp only[B6m]
  refine B3e (fun _=>B3e (fun hp=>?_) fun _=>k2 _ _ _ _ _ _ _ _ _ hi ht hl rfl) fun _=>k2 _ _ _ _ _ _ _ _ _ hi ht hl rfl
  have hp:=of_decide_eq_true hp
  have hlt0:0<l.length:=by omega
  simp only[show(0:Int).toNat=0 from rfl,getD_at hlt0]
  have s0:=hl.1.2 _ (zL hlt0)
  have t0:=hl.2.2 _ (zL hlt0)
  refine B89 (in0 hlt0) ?_
  refine(hV b i g hb hi).bind fun v i2 g2 p2 q2=>?_
  exact B89 (in0 t0) (k2 _ _ _ _ _ _ _ _ _ p2 ht (hl.set (D2g s0 (Nat.le_trans q2 (by decide))) (by rw[List.length_set];exact t0)) (by simp))
 simp only[B9q]
 refine(hT b i h _ hb hi (by decide)).bind fun t i1 g1 p1 q1=>?_
 have hc:=q1.2.2.1
 refine(hR b i1 g1 t hb p1 (by omega) (q1.sm (by decide)) q1.2.1).bind fun l i2 g2 p2 q2=>?_
 refine(hW b i2 g2 14 hb p2 (by omega)).bind fun x i3 g3 p3 q3=>?_
 refine B3e (fun _=>?_) fun _=>k1 _ _ _ _ _ _ _ _ _ p3 (q1.mono (by decide)) q2 rfl
 refine(hA b i3 g3 hb p3).bind fun t2 i4 g4 p4 q4=>?_
 exact k1 _ _ _ _ _ _ _ _ _ p4 q4 q2 rfl
def B6n (m:Nat)(d:B2g):Prop:=d.2.1.size≤1048576∧d.2.2.1.length≤m∧(∀c∈d.2.2.1,B6d 1048576 c)∧d.2.2.2.1.length≤m∧(∀k∈d.2.2.2.1,k.size≤1048576)∧d.2.2.2.2.1.size≤1048576∧d.2.2.2.2.2.size≤1048576
theorem B6n.mono {m n:Nat}{d:B2g}(h:B6n m d)(hm:m≤n):B6n n d:=⟨h.1,Nat.le_trans h.2.1 hm,h.2.2.1,Nat.le_trans h.2.2.2.1 hm,h.2.2.2.2⟩
theorem B6n.sm {m:Nat}{d:B2g}(h:B6n m d)(hm:m≤1048576):B7g 1048576 d:=⟨h.1,⟨Nat.le_trans h.2.1 hm,h.2.2.1⟩,⟨Nat.le_trans h.2.2.2.1 hm,h.2.2.2.2.1⟩,h.2.2.2.2.2.1,h.2.2.2.2.2.2⟩
theorem C5j:E0.size≤1048576:=Nat.zero_le _
theorem D0s:EV fun n=>∀(b:List Int) (i h:Int),b.length≤1048576→0≤i→B3a b (B6n 8) (B9n n b i h):=(B4w.and (C1g.and (C2z.and C30))).up fun n ⟨hW,hS,hC,hT⟩ b i h hb hi=>by
 simp only[B9n]
 refine(hW b i h 5 hb hi (by omega)).bind fun x i1 g1 p1 q1=>?_
 refine(hW b i1 g1 4 hb p1 (by omega)).bind fun y i2 g2 p2 q2=>?_
 have hw9:(List.getD [(⟨#[111]⟩:ByteArray),⟨#[116]⟩,⟨#[117]⟩,⟨#[118]⟩] y.toNat E0).size≤9:=C31 (by decide)
 have hw:(List.getD [(⟨#[111]⟩:ByteArray),⟨#[116]⟩,⟨#[117]⟩,⟨#[118]⟩] y.toNat E0).size≤1048576:=Nat.le_trans hw9 (by decide)
 have hcol:∀c:B3n,B6d 1048576 c→∀x∈[c],B6d 1048576 x:=fun c hc x hx=>by rw[zF1.mp hx];exact hc
 have hnil:∀k∈([]:A7d),k.size≤1048576:=fun k hk=>by cases hk
 have hnilc:∀k∈([]:B26),B6d 1048576 k:=fun k hk=>by cases hk
 refine B89 (C1f (m:=4) (by decide) (by decide) q2) (B3e (fun _=>?_) fun _=>B3e (fun _=>?_) fun _=>B3e (fun _=>?_) fun _=>B3e (fun _=>?_) fun _=> .mk p2 ⟨hw,Nat.zero_le _,hnilc,Nat.zero_le _,hnil,C5j,C5j⟩)
 ·refine(hT b i2 g2 _ hb p2 hw9).bind fun t i3 g3 p3 q3=>?_
  exact .mk p3 ⟨hw,Nat.le_trans q3.2.2.1 (by decide),q3.2.2.2.2.1,Nat.le_trans q3.2.2.2.1 (by decide),q3.2.2.2.2.2,C5j,C5j⟩
 ·refine(hS b i2 g2 hb p2).bind fun s i3 g3 p3 q3=>?_
  refine(hC b i3 g3 s hb p3 (Nat.le_trans q3 (by decide))).bind fun c i4 g4 p4 q4=>?_
  have k1:∀c:B3n,B6d 1048576 c→∀a:Int,B6n 8 (a,(List.getD [(⟨#[111]⟩:ByteArray),⟨#[116]⟩,⟨#[117]⟩,⟨#[118]⟩] y.toNat E0,([c],([],(E0,E0))))):=fun c hc a=>⟨hw,(by decide:1≤8),hcol c hc,Nat.zero_le _,hnil,C5j,C5j⟩
  exact B3e (fun _=>B3e (fun _=> .mk p4 (k1 (c.1,(c.2.1,(false,c.2.2.2))) ⟨q4.1,q4.2⟩ _)) fun _=> .mk p4 (k1 c q4 _)) fun _=> .mk p4 (k1 c q4 _)
 ·refine(hS b i2 g2 hb p2).bind fun s i3 g3 p3 q3=>?_
  exact .mk p3 ⟨hw,Nat.zero_le _,hnilc,Nat.zero_le _,hnil,Nat.le_trans q3 (by decide),C5j⟩
 ·refine(hS b i2 g2 hb p2).bind fun s i3 g3 p3 q3=>?_
  refine(hS b i3 g3 hb p3).bind fun s2 i4 g4 p4 q4=>?_
  exact .mk p4 ⟨hw,Nat.zero_le _,hnilc,Nat.zero_le _,hnil,Nat.le_trans q3 (by decide),Nat.le_trans q4 (by decide)⟩
theorem C86:EV fun n=>∀(b:List Int) (i h:Int),b.length≤1048576→0≤i→B3a b (B6n 9) (B7i n b i h):=(B4w.and (D0s.and C2z)).up fun n ⟨hW,hD,hC⟩ b i h hb hi=>by
 have k6:∀(i g z:Int) (e1 e2 e3:ByteArray) (cs:B26) (ks:A7d) (d:B2g),0≤i→B6n 9 d→B3a b (B6n 9) (B58 n 1 b i g z e1 e2 e3 cs ks d.1 d.2.1 d.2.2.2.2.1 d.2.2.2.2.2 d.2.2.1 d.2.2.2.1):=by
  intro i g z e1 e2 e3 cs ks d hi hd
  simp only[B58]
  exact .mk hi hd
 have k5:∀(k i g z:Int) (e1 e2 e3:ByteArray) (cs:B26) (ks:A7d) (d:B2g),0≤i→(d.2.2.1.length≤9∧d.2.2.2.1.length≤8∧B6n 9 d)→B3a b (B6n 9) (B57 n 1 k b i g z e1 e2 e3 cs ks d.1 d.2.1 d.2.2.2.2.1 d.2.2.2.2.2 d.2.2.1 d.2.2.2.1):=by
  intro k i g z e1 e2 e3 cs ks d hi ⟨h1,h2,hd⟩
  simp only[B57]
  refine B3e (fun _=>B89 (room_le (n:=100) (by simp;omega) (by decide) (by decide)) (k6 _ _ _ _ _ _ _ _ (d.1,(d.2.1,(d.2.2.1,(d.2.2.2.1++[⟨#[105,100]⟩],(d.2.2.2.2.1,d.2.2.2.2.2))))) hi ⟨hd.1,hd.2.1,hd.2.2.1,by simp;omega,fun x hx=>?_,hd.2.2.2.2.2⟩)) fun _=>k6 _ _ _ _ _ _ _ _ d hi hd
  rcases zY.mp hx with hx|hx
  ·exact hd.2.2.2.2.1 x hx
  ·rw[zF1.mp hx];decide
 have k4:∀(k i g z:Int) (e1 e2 e3:ByteArray) (cs:B26) (ks:A7d) (d:B2g),0≤i→B6n 8 d→B3a b (B6n 9) (B56 n 1 k b i g z e1 e2 e3 cs ks d.1 d.2.1 d.2.2.2.2.1 d.2.2.2.2.2 d.2.2.1 d.2.2.2.1):=by
  intro k i g z e1 e2 e3 cs ks d hi hd
  have hl:=hd.2.1
  simp only[B56]
  refine B3e (fun _=>?_) fun _=>k5 _ _ _ _ _ _ _ _ _ d hi ⟨by omega,hd.2.2.2.1,hd.mono (by decide)⟩
  refine(hC b i g _ hb hi (by decide)).bind fun c i2 g2 p2 q2=>?_
  refine B89 (room_le (n:=100) (by simp;omega) (by decide) (by decide)) (k5 _ _ _ _ _ _ _ _ _ (d.1,(d.2.1,(d.2.2.1++[c],(d.2.2.2.1,(d.2.2.2.2.1,d.2.2.2.2.2))))) p2 ⟨by simp;omega,hd.2.2.2.1,hd.1,by simp;omega,fun x hx=>?_,Nat.le_trans hd.2.2.2.1 (by decide),hd.2.2.2.2⟩)
  rcases zY.mp hx with hx|hx
  ·exact hd.2.2.1 x hx
  ·rw[zF1.mp hx];exact q2
 have k3:∀(k i g z:Int) (e1 e2 e3:ByteArray) (cs:B26) (ks:A7d) (d:B2g),0≤i→B6n 8 d→B3a b (B6n 9) (B55 n 1 k b i g z e1 e2 e3 cs ks d.1 d.2.1 d.2.2.2.2.1 d.2.2.2.2.2 d.2.2.1 d.2.2.2.1):=by
  intro k i g z e1 e2 e3 cs ks d hi hd
  simp only[B55]
  exact B3e (fun _=>k4 _ _ _ _ _ _ _ _ _ (d.1,(d.2.1,(d.2.2.1,(d.2.2.2.1,(d.2.2.2.2.1,⟨#[120]⟩))))) hi ⟨hd.1,hd.2.1,hd.2.2.1,hd.2.2.2.1,hd.2.2.2.2.1,hd.2.2.2.2.2.1,(by decide:(⟨#[120]⟩:ByteArray).size≤1048576)⟩) fun _=>k4 _ _ _ _ _ _ _ _ _ d hi hd
 have k2:∀(k i g z:Int) (e1 e2 e3:ByteArray) (cs:B26) (ks:A7d) (d:B2g),0≤i→B6n 8 d→B3a b (B6n 9) (B54 n 1 k b i g z e1 e2 e3 cs ks d.1 d.2.1 d.2.2.2.2.1 d.2.2.2.2.2 d.2.2.1 d.2.2.2.1):=by
  intro k i g z e1 e2 e3 cs ks d hi hd
  simp only[B54]
  exact B3e (fun _=>k3 _ _ _ _ _ _ _ _ _ (d.1,(d.2.1,(d.2.2.1,(d.2.2.2.1,(⟨#[88]⟩,d.2.2.2.2.2))))) hi ⟨hd.1,hd.2.1,hd.2.2.1,hd.2.2.2.1,hd.2.2.2.2.1,(by decide:(⟨#[88]⟩:ByteArray).size≤1048576),hd.2.2.2.2.2.2⟩) fun _=>k3 _ _ _ _ _ _ _ _ _ d hi hd
 have k1:∀(k i g z:Int) (e1 e2 e3:ByteArray) (cs:B26) (ks:A7d) (d:B2g),0≤i→B6n 8 d→B3a b (B6n 9) (B53 n 1 k b i g z e1 e2 e3 cs ks d.1 d.2.1 d.2.2.2.2.1 d.2.2.2.2.2 d.2.2.1 d.2.2.2.1):=by
  intro k i g z e1 e2 e3 cs ks d hi hd
  simp only[B53]
  exact B3e (fun _=>k2 _ _ _ _ _ _ _ _ _ (d.1,(E0,d.2.2)) hi ⟨C5j,hd.2⟩) fun _=>k2 _ _ _ _ _ _ _ _ _ d hi hd
 simp only[B7i]
 refine(hD b i h hb hi).bind fun d i1 g1 p1 q1=>?_
 refine(hW b i1 g1 14 hb p1 (by omega)).bind fun x i2 g2 p2 q2=>?_
 refine B3e (fun _=>?_) fun _=>k1 _ _ _ _ _ _ _ _ _ d p2 q1
 refine(hW b i2 g2 8 hb p2 (by omega)).bind fun y i3 g3 p3 q3=>?_
 exact k1 _ _ _ _ _ _ _ _ _ (_,d.2) p3 q1
theorem C6u:EV fun n=>∀b:List Int,b.length≤1048576→∃(t:C3) (l:B28) (d:B2g),B6r n b=some (t,(l,(d,())))∧B2t 1048576 t∧B5u 1048576 l∧B7g 1048576 d:=(D2x.and (C6s.and (C86.and B4w))).up fun n ⟨hN,hA,hD,hW⟩ b hb=>by
 obtain⟨h,e0⟩:=hN b hb
 have k2:∀(l:B28) (e1:ByteArray) (c1:B26) (s1:A7d) (z:Int) (e2 e3 e4:ByteArray) (c2:B26) (s2:A7d) (t:C3) (d:B2g),B3c 8 t→B69 70 l→B6n 9 d→
   ∃(t':C3) (l':B28) (d':B2g),B2y n 1 l e1 c1 s1 z e2 e3 e4 c2 s2 t.1 t.2.1 t.2.2 d.1 d.2.1 d.2.2.2.2.1 d.2.2.2.2.2 d.2.2.1 d.2.2.2.1=some (t',(l',(d',())))∧B2t 1048576 t'∧B5u 1048576 l'∧B7g 1048576 d':=by
  intro l e1 c1 s1 z e2 e3 e4 c2 s2 t d ht hl hd
  simp only[B2y]
  exact⟨t,l,d,rfl,ht.sm (by decide),hl.1,hd.sm (by decide)⟩
 have k1:∀(i g:Int) (l:B28) (e1:ByteArray) (c1:B26) (s1:A7d) (z:Int) (e2 e3 e4:ByteArray) (c2:B26) (s2:A7d) (t:C3) (d:B2g),0≤i→B3c 8 t→B69 70 l→B6n 9 d→
   ∃(t':C3) (l':B28) (d':B2g),B49 n 1 l e1 c1 s1 z e2 e3 e4 c2 s2 b i g t.1 t.2.1 t.2.2 d.1 d.2.1 d.2.2.2.2.1 d.2.2.2.2.2 d.2.2.1 d.2.2.2.1=some (t',(l',(d',())))∧B2t 1048576 t'∧B5u 1048576 l'∧B7g 1048576 d':=by
  intro i g l e1 c1 s1 z e2 e3 e4 c2 s2 t d hi ht hl hd
  have h1:=ht.2.1
  have h8:=ht.2.2.1
  have e0:decide ((0:Int)<(t.2.1.length:Int))=true:=zD (by omega)
  obtain⟨x,i2,g2,ex,p2,q2⟩:=hW b i g 2 hb hi (by omega)
  obtain⟨y,i3,g3,ey,p3,q3⟩:=hW b i2 g2 (t.2.1.length:Int) hb p2 (by omega)
  have hy:=C1f (show 0<t.2.1.length by omega) rfl q3
  have hd2:B6n 9 (d.1,(d.2.1,(d.2.2.1,(d.2.2.2.1,((t.2.1.getD y.toNat CZ).1,d.2.2.2.2.2))))):=⟨hd.1,hd.2.1,hd.2.2.1,hd.2.2.2.1,hd.2.2.2.2.1,(C1m (l:=t.2.1) ht.2.2.2.2.1).1,hd.2.2.2.2.2.2⟩
  simp only[B49,e0,zB,ex,ey,zC,hy]
  cases (x==(0:Int))<;>cases (d.1==(4:Int))<;>cases (d.1==(5:Int))<;>simp only[zB,zA]<;>first
   |exact k2 _ _ _ _ _ _ _ _ _ _ t d ht hl hd
   |exact k2 _ _ _ _ _ _ _ _ _ _ t _ ht hl hd2
 obtain⟨t,l,i1,g1,e1,p1,q1,q2⟩:=hA b 0 h hb (by omega)
 obtain⟨d,i2,g2,e2,p2,q3⟩:=hD b i1 g1 hb p1
 obtain⟨x,i3,g3,e3,p3,q4⟩:=hW b i2 g2 4 hb p2 (by omega)
 simp only[B6r,e0,e1,e2,e3,zC]
 cases decide ((0:Int)<x)<;>simp only[zB,zA]
 ·exact k1 _ _ _ _ _ _ _ _ _ _ _ _ t d p3 q1 q2 q3
 ·exact k1 _ _ _ _ _ _ _ _ _ _ _ _ t (d.1,(⟨#[116]⟩,d.2.2)) p3 q1 q2 ⟨(by decide:(⟨#[116]⟩:ByteArray).size≤1048576),q3.2⟩
theorem D33:EV fun n=>∀(x0:C9d),D0k 140737488355328 x0→C32 n x0=some true:=(C6u.and (C5x.and (C60.and (C58.and (C2o.and C1i))))).up fun n ⟨hD,hR,hS,hA,hC,hO⟩ x0 _=>by
 rw[C32]
 by_cases hb:x0.length≤1048576
 ·have e0:decide ((1048576:Int)<(x0.length:Int))=false:=zK (by omega)
  obtain⟨t,l,d,e,st,sl,sd⟩:=hD x0 hb
  have st1:B64 1048576 [t]:=⟨by simp,fun x hx=>by rw[zF1.mp hx];exact st⟩
  have ha:=D1e st1 sd
  have hl:=sl.1
  simp only[e0,zA,e,zC,hR t l d st sl sd,hS t l d st sl sd,B6q,B2r,zI,zT]
  rw[show [(t.1,(t.2.1,t.2.2))]=[t]from rfl,hA [t] d st1 sd]
  by_cases hc:B3p t l=true∧B3d d=true∧d.2.1=t.1∧d.1≠1
  ·obtain⟨h1,h2,h3,h4⟩:=hc
   obtain⟨ht,_,_⟩:=B7f h1
   have hcat:=C54 ht
   have hcode:=C53 h3 h4
   by_cases hf:B3k t d=0
   ·have er:B6w t l d=(if d.1=2 then []else l.map (B50 t d),(0,())):=by
     unfold B6w;rw[if_pos ⟨h1,h2,h3,h4⟩,if_pos hf]
    have ea:C06 [t] d=(B7b [t] d,(0,())):=by
     unfold C06;rw[if_pos ⟨hcat,h2⟩,if_pos (hcode.trans hf)]
    rw[ea]at ha
    simp only[er,ea,zI,zT,zA,zC,hC _ ha]
    by_cases k2:d.1=2
    ·have et:B7b [t] d=[]:=by
      unfold B7b
      rw[if_neg h4,if_pos k2,C9q h3];rfl
     have hn:B88 []=true:=by decide
     simp only[et,k2,hn,zI,zT,zA,zB,if_true,zX];rfl
    ·have et:B7b [t] d=[B2j t d]:=by
      unfold B7b
      rw[if_neg h4,if_neg k2,C9q h3];rfl
     have hch:=C92 ht h2 hf h4 k2
     rw[et]at ha
     have e5:=hO (B2j t d) (l.map (B50 t d)) (ha.2 _ (zF1.mpr rfl)) (by rw[List.length_map];exact hl)
     simp only[et,k2,C54 hch,zH,zT,zA,if_false,zW,zX,List.length_map]
     simp only[show decide (((0+1:Nat):Int)=1)=true from rfl,zB,in0 (Nat.le_refl (0+1)),show(0:Int).toNat=0 from rfl,List.getD_cons_zero,e5,D12 h1 h2 hf h4 k2,zC,zI]
   ·have er:B6w t l d=([],(B3k t d,())):=by
     unfold B6w;rw[if_pos ⟨h1,h2,h3,h4⟩,if_neg hf]
    simp only[er,hf,zH,zU,zB];rfl
  ·have er:B6w t l d=([],(1,())):=by
    unfold B6w;rw[if_neg hc]
   simp only[er,show decide ((1:Int)=0)=false from rfl,zU,zB];rfl
 ·have e0:decide ((1048576:Int)<(x0.length:Int))=true:=zD (by omega)
  simp only[e0,zB]

end Go.Proofs.Ytalmhjlcjcnidaa.Ev

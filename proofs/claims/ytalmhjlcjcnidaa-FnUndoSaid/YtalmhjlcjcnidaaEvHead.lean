/- The states at the heads of loops, as typed data; and a table's rows out of them. -/
import Derived.Test.YtalmhjlcjcnidaaEvShape
set_option linter.all false
namespace Go.Proofs.Ytalmhjlcjcnidaa.Ev
open Go
def Lf.sub (r:Nat):Lf (Nat×Nat) where
 un:=fun| .sub q o n=>bif Nat.beq q r then some (o,n)else none|_=>none
 to:=fun x=> .sub r x.1 x.2
 ok:=by
  intro l x h
  cases l<;>simp only at h<;>try (cases h;done)
  rename_i q o n
  cases hb:Nat.beq q r<;>simp only[hb,zB,zA]at h
  ·cases h
  ·obtain rfl:=oI h
   rw[zN hb]
def Lf.pa (r c:Nat):Lf Nat where
 un:=fun| .pa q i d=>bif Nat.beq q r&&Nat.beq d c then some i else none|_=>none
 to:=fun x=> .pa r x c
 ok:=by
  intro l x h
  cases l<;>simp only at h<;>try (cases h;done)
  rename_i q o n
  cases hb:Nat.beq q r&&Nat.beq n c<;>simp only[hb,zB,zA]at h
  ·cases h
  ·obtain rfl:=oI h
   simp only[zJ]at hb
   rw[zN hb.1,zN hb.2]
def Lf.ptr (r c:Nat):Lf Nat where
 un:=fun| .ptr q i d=>bif Nat.beq q r&&Nat.beq d c then some i else none|_=>none
 to:=fun x=> .ptr r x c
 ok:=by
  intro l x h
  cases l<;>simp only at h<;>try (cases h;done)
  rename_i q o n
  cases hb:Nat.beq q r&&Nat.beq n c<;>simp only[hb,zB,zA]at h
  ·cases h
  ·obtain rfl:=oI h
   simp only[zJ]at hb
   rw[zN hb.1,zN hb.2]
def Cs.own (q:Nat){T:Type}(s:Cs T):Cs T where
 un:=fun| .own r::t=>bif Nat.beq r q then s.un t else none|_=>none
 to:=fun p=> .own q::s.to p
 ok:=by
  intro l r h
  match l,h with
  | .own g::t,h=>
   simp only at h
   cases hb:Nat.beq g q<;>simp only[hb,zB,zA]at h
   ·cases h
   ·rw[s.ok t r h,zN hb]
structure Kf where
 is:A0→Bool
 to:A0
 ok:∀l,is l=true→l=to
def Kf.undef:Kf:=⟨fun| .undef=>true|_=>false,.undef,by intro l h;cases l<;>simp_all⟩
def Kf.nil:Kf:=⟨fun| .nil=>true|_=>false,.nil,by intro l h;cases l<;>simp_all⟩
def Kf.ow (r:Nat):Kf:=⟨fun| .ow q=>Nat.beq q r|_=>false,.ow r,by intro l h;cases l<;>simp only at h<;>first|(rw[zN h])|cases h⟩
def Kf.box (r c:Nat):Kf:=⟨fun| .ptr q 0 d=>Nat.beq q r&&Nat.beq d c|_=>false,.ptr r 0 c,by
 intro l h
 split at h
 ·simp only[zJ]at h
  rw[zN h.1,zN h.2]
 ·cases h⟩
def Ls.nil:Ls Unit where
 un:=fun|[]=>some ()|_=>none
 to:=fun _=>[]
 ok:=by intro l r h;cases l<;>simp only at h<;>first|rfl|cases h
def Ls.k {U:Type}(a:Kf)(s:Ls U):Ls U where
 un:=fun|l::t=>bif a.is l then s.un t else none|_=>none
 to:=fun p=>a.to::s.to p
 ok:=by
  intro l r h
  match l,h with
  |l::t,h=>
   simp only at h
   cases hb:a.is l<;>simp only[hb,zB,zA]at h
   ·cases h
   ·rw[s.ok t r h,a.ok l hb]
structure Sl (T:Type) where
 un:List AV→Option T
 to:T→List AV
 ok:∀l r,un l=some r→l=to r
def Sl.nil:Sl Unit where
 un:=fun|[]=>some ()|_=>none
 to:=fun _=>[]
 ok:=by intro l r h;cases l<;>simp only at h<;>first|rfl|cases h
def A6g:Nat→List AV→Option (List AV)
 |0,l=>some l
 |n+1,.v (.one .undef)::t=>A6g n t
 |_+1,_=>none
theorem A6h:∀{n:Nat} {l t:List AV},A6g n l=some t→l=List.replicate n A1++t
 |0,l,t,h=>by simp only[A6g]at h;simpa using h
 |n+1,l,t,h=>by
  unfold A6g at h
  split at h
  ·cases ‹n+1=0›
  ·rename_i t' e
   obtain rfl:=Nat.succ.inj e
   rw[A6h h,List.replicate_succ];rfl
  ·cases h
def Sl.gap (n:Nat){U:Type}(s:Sl U):Sl U where
 un:=fun l=>(A6g n l).bind s.un
 to:=fun x=>List.replicate n A1++s.to x
 ok:=by
  intro l r h
  obtain⟨t,h1,h2⟩:=oB h
  rw[A6h h1,s.ok t r h2]
def Sl.k (a:Kf){U:Type}(s:Sl U):Sl U where
 un:=fun| .v (.one l)::t=>bif a.is l then s.un t else none|_=>none
 to:=fun x=> .v (.one a.to)::s.to x
 ok:=by
  intro l r h
  match l,h with
  | .v (.one l)::t,h=>
   simp only at h
   cases hb:a.is l<;>simp only[hb,zB,zA]at h
   ·cases h
   ·rw[s.ok t r h,a.ok l hb]
def Sl.one {T:Type}(a:Lf T){U:Type}(s:Sl U):Sl (T×U) where
 un:=fun| .v (.one l)::t=>(a.un l).bind fun x=>(s.un t).bind fun y=>some (x,y)|_=>none
 to:=fun p=> .v (.one (a.to p.1))::s.to p.2
 ok:=by
  intro l r h
  match l,h with
  | .v (.one l)::t,h=>
   obtain⟨x,h1,h2⟩:=oB h
   obtain⟨y,h3,h4⟩:=oB h2
   obtain rfl:=oI h4
   rw[a.ok l x h1,s.ok t y h3]
def Sl.agg {T:Type}(a:Ls T){U:Type}(s:Sl U):Sl (T×U) where
 un:=fun| .v (.agg l)::t=>(a.un l).bind fun x=>(s.un t).bind fun y=>some (x,y)|_=>none
 to:=fun p=> .v (.agg (a.to p.1))::s.to p.2
 ok:=by
  intro l r h
  match l,h with
  | .v (.agg l)::t,h=>
   obtain⟨x,h1,h2⟩:=oB h
   obtain⟨y,h3,h4⟩:=oB h2
   obtain rfl:=oI h4
   rw[a.ok l x h1,s.ok t y h3]
structure Rw (T:Type) where
 un:List (Nat×A6)→Option T
 to:T→List (Nat×A6)
 ok:∀l r,un l=some r→l=to r
def Rw.nil:Rw Unit where
 un:=fun|[]=>some ()|_=>none
 to:=fun _=>[]
 ok:=by intro l r h;cases l<;>simp only at h<;>first|rfl|cases h
def Rw.data (q:Nat)(f:Kd){U:Type}(s:Rw U):Rw (List f.T×U) where
 un:=fun|(r,.data g xs)::t=>bif Nat.beq r q then(if h:g=f then(s.un t).bind fun y=>some (L7 h xs,y)else none)else none|_=>none
 to:=fun p=>(q,.data f p.1)::s.to p.2
 ok:=by
  intro l r h
  match l,h with
  |(k,.data g xs)::t,h=>
   simp only at h
   cases hb:Nat.beq k q<;>simp only[hb,zB,zA]at h
   ·cases h
   ·split at h
    ·rename_i e;subst e
     obtain⟨y,h3,h4⟩:=oB h
     obtain rfl:=oI h4
     rw[s.ok t y h3,zN hb];rfl
    ·cases h
def Rw.dead (q:Nat){U:Type}(s:Rw U):Rw U where
 un:=fun|(r,.dead)::t=>bif Nat.beq r q then s.un t else none|_=>none
 to:=fun p=>(q,.dead)::s.to p
 ok:=by
  intro l r h
  match l,h with
  |(k,.dead)::t,h=>
   simp only at h
   cases hb:Nat.beq k q<;>simp only[hb,zB,zA]at h
   ·cases h
   ·rw[s.ok t r h,zN hb]
def Rw.box (q:Nat)(f:Kd){T:Type}(a:Ls T){U:Type}(s:Rw U):Rw (T×U) where
 un:=fun|(r,.box g ls)::t=>bif Nat.beq r q&&decide (g=f)then(a.un ls).bind fun x=>(s.un t).bind fun y=>some (x,y)else none|_=>none
 to:=fun p=>(q,.box f (a.to p.1))::s.to p.2
 ok:=by
  intro l r h
  match l,h with
  |(k,.box g ls)::t,h=>
   simp only at h
   cases hb:Nat.beq k q&&decide (g=f)<;>simp only[hb,zB,zA]at h
   ·cases h
   ·simp only[zJ,zG]at hb
    obtain⟨x,h1,h2⟩:=oB h
    obtain⟨y,h3,h4⟩:=oB h2
    obtain rfl:=oI h4
    rw[s.ok t y h3,a.ok ls x h1,zN hb.1,hb.2]
structure Sh (T:Type) where
 un:St→Option T
 to:T→St
 ok:∀l r,un l=some r→l=to r
def Sh.of {T U:Type}(s:Sl T)(w:Rw U)(p:Ls Unit):Sh (T×U) where
 un:=fun σ=>(s.un σ.slots).bind fun x=>(w.un σ.rows).bind fun y=>(p.un σ.pins).bind fun _=>some (x,y)
 to:=fun x=>⟨s.to x.1,w.to x.2,p.to ()⟩
 ok:=by
  intro σ r h
  obtain⟨slots,rows,pins⟩:=σ
  obtain⟨x,h1,h2⟩:=oB h
  obtain⟨y,h3,h4⟩:=oB h2
  obtain⟨z,h5,h6⟩:=oB h4
  obtain rfl:=oI h6
  simp only at h1 h3 h5
  rw[s.ok _ x h1,w.ok _ y h3,p.ok _ z h5]
def A8c {A T:Type}(S:Sh A)(w:Nat→A→Option T):List Nat→St→Option T
 |[j],σ=>(S.un σ).bind (w j)
 |_,_=>none
def A2r {A T:Type}(S:Sh A)(w:Nat→Nat→A→Option T):List Nat→St→Option T
 |[j,i],σ=>(S.un σ).bind (w i j)
 |_,_=>none
def B02 {A T:Type}(S:Sh A)(w:Nat→Nat→Nat→A→Option T):List Nat→St→Option T
 |[j,i,h],σ=>(S.un σ).bind (w h i j)
 |_,_=>none
structure RowOk (E:Env) (C:CF) (n g:Nat) {T:Type} (W:Tab T) (U:AV→Option T) (q:List Dir×(List Nat→St→Option T)):Prop where
 zero:∀js σ,q.2 (0::js) σ=none
 turn:∀js j σ r,q.2 ((j+1)::js) σ=some r→A3u E C n g W U q.1 js j σ=some r
theorem B24 {E:Env}{C:CF}{n g:Nat}{T:Type}{W:Tab T}{U:AV→Option T}(h:∀q∈W,RowOk E C n g W U q):A7f E C n g W U:=⟨fun q hq=>(h q hq).zero,fun q hq=>(h q hq).turn⟩
section
variable {E:Env} {C:CF} {n g:Nat} {T A:Type} {W:Tab T} {U:AV→Option T} {p:List Dir} {S:Sh A}
theorem B1q {w:Nat→A→Option T}(h0:∀a,w 0 a=none)(h:∀j a,A3u E C n g W U p [] j (S.to a)=w (j+1) a):RowOk E C n g W U (p,A8c S w):=by
 constructor
 ·intro js σ
  cases js with
  |nil=>show(S.un σ).bind (w 0)=none;cases S.un σ<;>simp[h0]
  |cons _ _=>rfl
 ·intro js j σ r hr
  match js,hr with
  |[],hr=>
   obtain⟨a,h1,h2⟩:=oB hr
   rw[S.ok σ a h1,h];exact h2
theorem B1r {w:Nat→Nat→A→Option T}(h0:∀i a,w i 0 a=none)(h:∀i j a,A3u E C n g W U p [i] j (S.to a)=w i (j+1) a):RowOk E C n g W U (p,A2r S w):=by
 constructor
 ·intro js σ
  match js with
  |[]=>rfl
  |[i]=>show(S.un σ).bind (w i 0)=none;cases S.un σ<;>simp[h0]
  |_::_::_=>rfl
 ·intro js j σ r hr
  match js,hr with
  |[i],hr=>
   obtain⟨a,h1,h2⟩:=oB hr
   rw[S.ok σ a h1,h];exact h2
theorem B1s {w:Nat→Nat→Nat→A→Option T}(h0:∀k i a,w k i 0 a=none)(h:∀k i j a,A3u E C n g W U p [i,k] j (S.to a)=w k i (j+1) a):RowOk E C n g W U (p,B02 S w):=by
 constructor
 ·intro js σ
  match js with
  |[]=>rfl
  |[_]=>rfl
  |[i,k]=>show(S.un σ).bind (w k i 0)=none;cases S.un σ<;>simp[h0]
  |_::_::_::_=>rfl
 ·intro js j σ r hr
  match js,hr with
  |[i,k],hr=>
   obtain⟨a,h1,h2⟩:=oB hr
   rw[S.ok σ a h1,h];exact h2
end
end Go.Proofs.Ytalmhjlcjcnidaa.Ev

/- Shapes: arguments and answers of a known form, as typed data. -/
import Derived.Test.YtalmhjlcjcnidaaEvEnv
set_option linter.all false
namespace Go.Proofs.Ytalmhjlcjcnidaa.Ev
open Go
structure Lf (T:Type) where
 un:A0→Option T
 to:T→A0
 ok:∀l r,un l=some r→l=to r
def Lf.int (k:IntKind):Lf Int where
 un:=fun| .int j n=>bif decide (j=k)then some n else none|_=>none
 to:=fun n=> .int k n
 ok:=by
  intro l r h
  cases l<;>simp only at h<;>try (cases h;done)
  rename_i j n
  cases hd:decide (j=k)<;>simp only[hd,zB,zA]at h
  ·cases h
  ·rw[zG]at hd;subst hd
   obtain rfl:=oI h;rfl
def Lf.bool:Lf Bool where
 un:=fun| .bool b=>some b|_=>none
 to:= .bool
 ok:=by intro l r h;cases l<;>simp only at h<;>first|(obtain rfl:=oI h;rfl)|cases h
def Lf.str:Lf ByteArray where
 un:=fun| .str b=>some b|_=>none
 to:= .str
 ok:=by intro l r h;cases l<;>simp only at h<;>first|(obtain rfl:=oI h;rfl)|cases h
def Lf.sh (f:Kd):Lf (List f.T) where
 un:=fun| .sh g xs=>if h:g=f then some (L7 h xs)else none|_=>none
 to:=fun xs=> .sh f xs
 ok:=by
  intro l r h
  cases l<;>simp only at h<;>try (cases h;done)
  split at h
  ·rename_i e;subst e
   obtain rfl:=oI h;rfl
  ·cases h
def Lf.od (f:Kd):Lf (List f.T) where
 un:=fun| .od g xs=>if h:g=f then some (L7 h xs)else none|_=>none
 to:=fun xs=> .od f xs
 ok:=by
  intro l r h
  cases l<;>simp only at h<;>try (cases h;done)
  split at h
  ·rename_i e;subst e
   obtain rfl:=oI h;rfl
  ·cases h
def B0b {f g:Kd}(h:f=g)(x:f.T):g.T:=h▸x
def Lf.spt (f:Kd)(c:Nat):Lf f.T where
 un:=fun| .spt g x d=>bif Nat.beq d c then(if h:g=f then some (B0b h x)else none)else none|_=>none
 to:=fun x=> .spt f x c
 ok:=by
  intro l r h
  cases l<;>simp only at h<;>try (cases h;done)
  rename_i g x d
  cases hb:Nat.beq d c<;>simp only[hb,zB,zA]at h
  ·cases h
  ·have e:=zN hb;subst e
   split at h
   ·rename_i e;subst e
    obtain rfl:=oI h;rfl
   ·cases h
structure Cs (T:Type) where
 un:List Cap→Option T
 to:T→List Cap
 ok:∀l r,un l=some r→l=to r
def Cs.nil:Cs Unit where
 un:=fun|[]=>some ()|_=>none
 to:=fun _=>[]
 ok:=by intro l r h;cases l<;>simp only at h<;>first|rfl|cases h
def Cs.cons (f:Kd){T:Type}(s:Cs T):Cs (f.T×T) where
 un:=fun| .sh g x::t=>if h:g=f then(s.un t).bind fun r=>some (B0b h x,r)else none|_=>none
 to:=fun p=> .sh f p.1::s.to p.2
 ok:=by
  intro l r h
  match l,h with
  | .sh g x::t,h=>
   simp only at h
   split at h
   ·rename_i e;subst e
    obtain⟨q,h1,h2⟩:=oB h
    obtain rfl:=oI h2
    rw[s.ok t q h1];rfl
   ·cases h
def Lf.clo (g:Nat){T:Type}(s:Cs T):Lf T where
 un:=fun| .clo f cs=>bif Nat.beq f g then s.un cs else none|_=>none
 to:=fun x=> .clo g (s.to x)
 ok:=by
  intro l r h
  cases l<;>simp only at h<;>try (cases h;done)
  rename_i f cs
  cases hb:Nat.beq f g<;>simp only[hb,zB,zA]at h
  ·cases h
  ·have e:=zN hb;subst e
   rw[s.ok cs r h]
structure Ls (T:Type) where
 un:List A0→Option T
 to:T→List A0
 ok:∀l r,un l=some r→l=to r
def Ls.one {T:Type}(a:Lf T):Ls T where
 un:=fun|[l]=>a.un l|_=>none
 to:=fun x=>[a.to x]
 ok:=by
  intro l r h
  match l,h with
  |[l],h=>rw[a.ok l r h]
def Ls.cons {T U:Type}(a:Lf T)(s:Ls U):Ls (T×U) where
 un:=fun|l::t=>(a.un l).bind fun x=>(s.un t).bind fun y=>some (x,y)|_=>none
 to:=fun p=>a.to p.1::s.to p.2
 ok:=by
  intro l r h
  match l,h with
  |l::t,h=>
   obtain⟨x,h1,h2⟩:=oB h
   obtain⟨y,h3,h4⟩:=oB h2
   obtain rfl:=oI h4
   rw[a.ok l x h1,s.ok t y h3]
structure Tv (T:Type) where
 un:TV→Option T
 to:T→TV
 ok:∀l r,un l=some r→l=to r
def Tv.one {T:Type}(a:Lf T):Tv T where
 un:=fun| .one l=>a.un l|_=>none
 to:=fun x=> .one (a.to x)
 ok:=by
  intro l r h
  match l,h with
  | .one l,h=>rw[a.ok l r h]
def Tv.agg {T:Type}(a:Ls T):Tv T where
 un:=fun| .agg l=>a.un l|_=>none
 to:=fun x=> .agg (a.to x)
 ok:=by
  intro l r h
  match l,h with
  | .agg l,h=>rw[a.ok l r h]
structure Tvs (T:Type) where
 un:List TV→Option T
 to:T→List TV
 ok:∀l r,un l=some r→l=to r
def Tvs.nil:Tvs Unit where
 un:=fun|[]=>some ()|_=>none
 to:=fun _=>[]
 ok:=by intro l r h;cases l<;>simp only at h<;>first|rfl|cases h
def Tvs.cons {T U:Type}(a:Tv T)(s:Tvs U):Tvs (T×U) where
 un:=fun|l::t=>(a.un l).bind fun x=>(s.un t).bind fun y=>some (x,y)|_=>none
 to:=fun p=>a.to p.1::s.to p.2
 ok:=by
  intro l r h
  match l,h with
  |l::t,h=>
   obtain⟨x,h1,h2⟩:=oB h
   obtain⟨y,h3,h4⟩:=oB h2
   obtain rfl:=oI h4
   rw[a.ok l x h1,s.ok t y h3]
structure Rt (T:Type) where
 un:AV→Option T
 to:T→AV
 ok:∀l r,un l=some r→l=to r
def Rt.v {T:Type}(a:Tv T):Rt T where
 un:=fun| .v l=>a.un l|_=>none
 to:=fun x=> .v (a.to x)
 ok:=by
  intro l r h
  match l,h with
  | .v l,h=>rw[a.ok l r h]
def Rt.tup {T:Type}(a:Tvs T):Rt T where
 un:=fun| .tup l=>a.un l|_=>none
 to:=fun x=> .tup (a.to x)
 ok:=by
  intro l r h
  match l,h with
  | .tup l,h=>rw[a.ok l r h]
structure Fn' (A T:Type) where
 g:Nat
 args:Tvs A
 ret:Rt T
 run:Nat→A→Option T
def A5h {A T:Type}(F:Fn' A T)(n:Nat){R:Type}(as:List TV)(κ:AV→Option R):Option R:=
 (F.args.un as).bind fun a=>(F.run n a).bind fun r=>κ (F.ret.to r)
def A9s (P:Program)(E:Env){A T:Type}(F:Fn' A T)(n:Nat):Prop:=∀a r,F.run n a=some r→N0 P (E.sig F.g).modes (E.sig F.g).rbx.isSome F.g (F.args.to a) (F.ret.to r)
theorem A8q {P:Program}{E:Env}{A T:Type}{F:Fn' A T}{n:Nat}(h:A9s P E F n){R:Type}{as:List TV}{κ:AV→Option R}{x:R}(hc:A5h F n as κ=some x):∃out,N0 P (E.sig F.g).modes (E.sig F.g).rbx.isSome F.g as out∧κ out=some x:=by
 obtain⟨a,h1,h2⟩:=oB hc
 obtain⟨r,h3,h4⟩:=oB h2
 exact⟨_,by rw[F.args.ok as a h1];exact h a r h3,h4⟩
theorem B14 {P:Program}{E:Env}(hE:B4 P E)(hQ:U2 P E){C:CF}(hC:A2m P E C)(hD:K2 C){A T:Type}{F:Fn' A T}{n m:Nat}{W:Tab T}
  (hT:A7f E C n F.g W F.ret.un) (heq:∀a,A1r E C n F.g W (F.args.to a) F.ret.un=F.run m a):A9s P E F m:=by
 intro a r h
 rw[←heq a]at h
 exact A4u hE hQ hC hD (fun o ho=>F.ret.ok o r ho) hT h
theorem B1a {E:Env}{C:CF}{n g:Nat}{T:Type}{U:AV→Option T}:A7f E C n g ([]:Tab T) U:=⟨by simp,by simp⟩
end Go.Proofs.Ytalmhjlcjcnidaa.Ev
namespace Go.Proofs.Ytalmhjlcjcnidaa.Ev
open Go
structure Ent where
 g:Nat
 call:(R:Type)→Nat→List TV→(AV→Option R)→Option R
 acc:List TV→Bool
def B0c {A T:Type}(F:Fn' A T):Ent:=⟨F.g,fun _ n us κ=>A5h F n us κ,fun us=>match F.args.un us with|some _=>true|none=>false⟩
def chain:List Ent→Nat→CF
 |[],_=>fun _ _ _ _=>none
 |e::t,n=>fun R g us κ=>bif Nat.beq e.g g&&e.acc us then e.call R n us κ else chain t n R g us κ
def B07 (P:Program)(E:Env)(n:Nat)(e:Ent):Prop:=∀(R:Type) (us:List TV) (κ:AV→Option R) (r:R),e.call R n us κ=some r→∃out,N0 P (E.sig e.g).modes (E.sig e.g).rbx.isSome e.g us out∧κ out=some r
theorem A8t {P:Program}{E:Env}{n:Nat}:∀{l:List Ent},(∀e∈l,B07 P E n e)→A2m P E (chain l n)
 |[],_=>fun R g us κ r h=>by cases h
 |e::t,hl=>fun R g us κ r h=>by
  simp only[chain]at h
  cases hb:Nat.beq e.g g&&e.acc us<;>simp only[hb,zB,zA]at h
  ·exact A8t (fun e he=>hl e (zF _ he)) R g us κ r h
  ·simp only[zJ]at hb
   have hg:=zN hb.1
   subst hg
   exact hl e (zM ..) R us κ r h
theorem B1g {P:Program}{E:Env}{A T:Type}{F:Fn' A T}{n:Nat}(h:A9s P E F n):B07 P E n (B0c F):=fun _ _ _ _ hc=>A8q h hc
def A8g (e:Ent):Prop:=∀(n:Nat) (R:Type) (us:List TV) (κ:AV→Option R),e.call R n us κ=(e.call AV n us some).bind κ
theorem B1y {A T:Type}(F:Fn' A T):A8g (B0c F):=by
 intro n R us κ
 show A5h F n us κ=(A5h F n us some).bind κ
 unfold A5h
 cases F.args.un us with
 |none=>rfl
 |some a=>
  simp only[zC]
  cases F.run n a<;>rfl
theorem A80 {n:Nat}:∀{l:List Ent},(∀e∈l,A8g e)→K2 (chain l n)
 |[],_=>fun _ _ _ _=>rfl
 |e::t,hl=>fun R g us κ=>by
  simp only[chain]
  cases Nat.beq e.g g&&e.acc us<;>simp only[zB,zA]
  ·exact A80 (fun e he=>hl e (zF _ he)) R g us κ
  ·exact hl e (zM ..) n R us κ
theorem B15 {P:Program}{E:Env}{A T:Type}{F:Fn' A T}(h:∀a,F.run 0 a=none):A9s P E F 0:=fun a r hr=>by rw[h a]at hr;cases hr
end Go.Proofs.Ytalmhjlcjcnidaa.Ev

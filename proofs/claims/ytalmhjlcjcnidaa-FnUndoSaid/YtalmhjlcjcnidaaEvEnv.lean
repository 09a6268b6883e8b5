/- The evaluator's tables, held against the program by computing. -/
import Derived.Test.YtalmhjlcjcnidaaEvLaw
set_option linter.all false
namespace Go.Proofs.Ytalmhjlcjcnidaa.Ev
open Go
def U5:Kd→List Value→Option (List Value)
 | .int k,.int k' n::t=>bif decide (k'=k∧n=0)then some t else none
 | .bool,.bool b::t=>bif b then none else some t
 | .str,.string s::t=>bif Nat.beq s.size 0 then some t else none
 | .sl _,.slice none 0 0::t=>some t
 | .pair a b,vs=>(U5 a vs).bind (U5 b)
 |_,_=>none
def A2w (f:Kd)(z:Option Value):Bool:=match z with
 |some z=>match U5 f z.cells.toList with
  |some []=>true
  |_=>false
 |none=>false
def elB (P:Program)(e:TypeId)(f:Kd)(eb:Nat):Bool:=match P.info? e with
 |some j=>Nat.beq j.size f.size&&Nat.beq j.bytes eb&&A2w f j.zero
 |none=>false
def tyB (P:Program)(t:TypeId)(i:Ti):Bool:=
 (match P.info? t with
  |some j=>Nat.beq j.size i.size&&A2w i.kd j.zero
  |none=>false)&&
 Nat.beq i.size i.kd.size&&
 (match P.underlying t with
  |some (.int k)=>decide (i.kd= .int k)&& !i.agg&&i.offs.isEmpty
  |some .bool=>decide (i.kd= .bool)&& !i.agg&&i.offs.isEmpty
  |some .string=>decide (i.kd= .str)&& !i.agg&&i.offs.isEmpty
  |some (.slice e)=>match i.kd with
   | .sl f=> !i.agg&&i.offs.isEmpty&&elB P e f i.eb
   |_=>false
  |some (.struct fs)=>i.agg&&decide (i.offs=fs.toList.map fun f=>(f.offset,P.cellsOf f.type))&&fs.toList.all fun f=>match P.info? f.type with
    |some j=> !Nat.beq j.size 0
    |none=>false
  |_=>false)&&
 (match i.kd with
  | .sl (.int .u8)=>match P.underlying t with
   |some (.slice e)=>match P.underlying e with
    |some (.int .u8)=>true
    |_=>false
   |_=>true
  |_=>true)
section
variable {P:Program} {E:Env}
theorem A3w:∀{f:Kd} {vs rest:List Value},U5 f vs=some rest→vs=B3 f++rest
 | .int k,vs,rest,h=>by
  match vs,h with
  | .int k' n::t,h=>
   simp only[U5]at h
   cases hd:decide (k'=k∧n=0)<;>simp only[hd,zB,zA]at h
   ·cases h
   ·rw[zG]at hd
    have e:=oI h
    rw[hd.1,hd.2,e]
    rfl
 | .bool,vs,rest,h=>by
  match vs,h with
  | .bool b::t,h=>
   simp only[U5]at h
   cases b<;>simp only[zB,zA]at h
   ·obtain rfl:=oI h;rfl
   ·cases h
 | .str,vs,rest,h=>by
  match vs,h with
  | .string s::t,h=>
   simp only[U5]at h
   cases hb:Nat.beq s.size 0<;>simp only[hb,zB,zA]at h
   ·cases h
   ·obtain rfl:=oI h
    have h0:=zN hb
    obtain⟨d⟩:=s
    have:d=#[]:=Array.eq_empty_of_size_eq_zero h0
    subst this;rfl
 | .sl f,vs,rest,h=>by
  match vs,h with
  | .slice none 0 0::t,h=>
   simp only[U5]at h
   obtain rfl:=oI h;rfl
 | .pair a b,vs,rest,h=>by
  have h':(U5 a vs).bind (U5 b)=some rest:=by
   match vs,h with
   |[],h=>simpa[U5]using h
   |_::_,h=>simpa[U5]using h
  obtain⟨r,h1,h2⟩:=oB h'
  rw[A3w h1,A3w h2];simp[B3]
theorem A3v {f:Kd}{z:Option Value}(h:A2w f z=true):∃v,z=some v∧v.cells.toList=B3 f:=by
 unfold A2w at h
 split at h
 ·rename_i v
  split at h
  ·rename_i hz
   refine⟨v,rfl,?_⟩
   rw[A3w hz,zH1]
  ·cases h
 ·cases h
theorem B0n {e:TypeId}{f:Kd}{eb:Nat}(h:elB P e f eb=true):T5 P e f eb:=by
 unfold elB at h
 split at h
 ·rename_i j hj
  simp only[zJ]at h
  obtain⟨v,h1,h2⟩:=A3v h.2
  exact⟨j,v,hj,zN h.1.1,zN h.1.2,h1,h2⟩
 ·cases h
theorem S2 {α:Type}{l:List α}(h:l.isEmpty=true):l=[]:=by cases l<;>simp_all
theorem A9r {t:TypeId}{i:Ti}(h:tyB P t i=true):A6n P t i∧∀e,i.kd= .sl (.int .u8)→P.underlying t=some (.slice e)→P.underlying e=some (.int .u8):=by
 unfold tyB at h
 simp only[zJ]at h
 obtain⟨⟨⟨h1,h2⟩,h3⟩,h4⟩:=h
 refine⟨⟨?_,?_,zN h2⟩,fun e hk hu=>?_⟩
 ·split at h1
  ·rename_i j hj
   simp only[zJ]at h1
   obtain⟨v,k1,k2⟩:=A3v h1.2
   exact⟨j,v,hj,zN h1.1,k1,k2⟩
  ·cases h1
 ·split at h3
  ·rename_i k hu
   simp only[zJ,zG,Bool.not_eq_true']at h3
   exact⟨_,hu,h3.1.1,h3.1.2,S2 h3.2⟩
  ·rename_i hu
   simp only[zJ,zG,Bool.not_eq_true']at h3
   exact⟨_,hu,h3.1.1,h3.1.2,S2 h3.2⟩
  ·rename_i hu
   simp only[zJ,zG,Bool.not_eq_true']at h3
   exact⟨_,hu,h3.1.1,h3.1.2,S2 h3.2⟩
  ·rename_i e hu
   split at h3
   ·rename_i f hk
    simp only[zJ,Bool.not_eq_true']at h3
    exact⟨_,hu,f,hk,⟨h3.1.1,S2 h3.1.2⟩,B0n h3.2⟩
   ·cases h3
  ·rename_i fs hu
   simp only[zJ,zG]at h3
   refine⟨_,hu,h3.1.1,h3.1.2,fun f hf=>?_⟩
   have:=List.all_eq_true.mp h3.2 f hf
   split at this
   ·rename_i j hj
    refine⟨j,hj,fun h0=>?_⟩
    rw[h0]at this;simp at this
   ·cases this
  ·cases h3
 ·rw[hk]at h4
  simp only[hu]at h4
  split at h4
  ·assumption
  ·cases h4
theorem look_in' {α:Type}{r:Nat}{v:α}:∀{rs:List (Nat×α)},look r rs=some v→(r,v)∈rs
 |[],h=>by cases h
 |(k,u)::t,h=>by
  simp only[look]at h
  cases hb:Nat.beq k r<;>simp only[hb,zB,zA]at h
  ·exact zF _ (look_in' h)
  ·obtain rfl:=oI h
   have e:=zN hb;subst e
   exact zM ..
theorem B1h (h1:E.tyT.all (fun p=>tyB P p.1 p.2)=true)(h2:∀p∈E.fnT,P.funcs[p.1]?=some p.2∧(p.2.name== "runtime.NumGoroutine")=false)(h3:P.follows .mixedOrders=true):B4 P E:=by
 have key:∀t i,E.ty t=some i→tyB P t i=true:=fun t i h=>List.all_eq_true.mp h1 (t,i) (look_in' h)
 exact⟨fun t i h=>(A9r (key t i h)).1,fun g fn h=>h2 (g,fn) (look_in' h),h3,fun t i e h hk hu=>(A9r (key t i h)).2 e hk hu⟩
end
end Go.Proofs.Ytalmhjlcjcnidaa.Ev

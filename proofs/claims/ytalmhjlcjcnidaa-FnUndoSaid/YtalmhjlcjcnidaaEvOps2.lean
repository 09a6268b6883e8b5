/- More operations that only compute. -/
import Derived.Test.YtalmhjlcjcnidaaEvOps1
import Derived.WalkLawsBesides
set_option linter.all false
namespace Go.Proofs.Ytalmhjlcjcnidaa.Ev
open Go

def H8:List Value→List Value→Option Bool
 |[],[]=>some true
 | .int k a::s,.int j b::t=>bif decide (k=j)then(H8 s t).map fun e=>(a==b&&e)else none
 | .bool a::s,.bool b::t=>(H8 s t).map fun e=>(a==b&&e)
 | .string a::s,.string b::t=>(H8 s t).map fun e=>(a.toList==b.toList&&e)
 |_,_=>none
def P6:Kd→List Value→Prop
 | .int k,vs=>∃n,vs=[.int k n]
 | .bool,vs=>∃b,vs=[.bool b]
 | .str,vs=>∃s,vs=[.string s]
 | .sl _,_=>False
 | .pair a b,vs=>∃v1 v2,vs=v1++v2∧P6 a v1∧P6 b v2
def B1v (P:Program)(t:TypeId)(f:Kd):Prop:=
 ∀(us vs:List Value) (e:Bool) (x y:Operand) (w:World),H8 us vs=some e→P6 f us→P6 f vs→
  (eqGuard .eql t x y (.agg us.toArray) (.agg vs.toArray)).run P w= .ok () w∧(eqGuard .neq t x y (.agg us.toArray) (.agg vs.toArray)).run P w= .ok () w∧
  (Op.equal t (.agg us.toArray) (.agg vs.toArray)).run P w= .ok e w

def U2 (P:Program)(E:Env):Prop:=∀t i,E6 t E.eqT=true→E.ty t=some i→B1v P t i.kd
section
variable {P:Program} {E:Env} {X:Ctx} {σ σ':St} {a:Act} {w:World} {G:Gh}
theorem B1e {s:ByteArray}{n:Int}(h:inR n s.size=true):∃b,s[n.toNat]?=some b∧0≤n∧(b.toNat:Int)=bt s n:=by
 simp only[inR,zG]at h
 have hlt:n.toNat<s.size:=by omega
 exact⟨s[n.toNat],getElem?_pos s n.toNat hlt,h.1,by simp[bt,hlt]⟩
theorem A71 (hE:B4 P E)(hs:Sim X σ a w G){o:Oper}{t:TypeId}{x i:Operand}(ho:o.op= .index t x i)(h:A03 E o t x i σ=some (true,σ')):B1 P X o σ' a w:=by
 unfold A03 at h
 split at h
 ·rename_i k n s hi hx
  cases ht:E.isStr t<;>simp only[ht,zB,zA]at h
  ·cases h
  obtain⟨hr,rfl⟩:=zQ (oI h)
  obtain⟨b,hb,h0,hbt⟩:=B1e hr
  have h1:=(hs.ev1 hi (by simp)).1
  have h2:=(hs.ev1 hx (by simp)).1
  simp only[A5]at h1 h2
  refine B1.put hs (v:= .int .u8 (bt s n)) ?_ (Or.inr rfl) (by simp[AV.refs,AV.leaves,TV.leaves,A0.refs])
  simp[execOp,ho,h1,h2,Instr.index,asIntOf,underlying,hE.isStr ht,h0,hb,hbt]
 ·cases h
theorem A45 (hs:Sim X σ a w G){o:Oper}{x:Operand}(ho:o.op= .nilCheck x)(h:M3 o x σ=some (true,σ')):B1 P X o σ' a w:=by
 unfold M3 at h
 split at h
 ·rename_i r i c hx
  obtain⟨h1,h2⟩:=hs.ev1 hx (by simp)
  split at h
  ·rename_i f xs hr
   obtain⟨_,b,n,cap,_,e⟩:=h1.2.1 f xs (St.dat_of hr)
   exact B1.one hs h (v:=a.eval x) (by simp[execOp,ho,e]) h1 h2
  ·rename_i f ls hr
   obtain⟨b,_,e⟩:=h1.2.2 f ls hr
   exact B1.one hs h (v:=a.eval x) (by simp[execOp,ho,e]) h1 h2
  ·rename_i f xs i0 c0 n0 hr
   obtain⟨_,b,n,cap,_,e⟩:=h1.2.1 f xs (St.dat_hol hr)
   exact B1.one hs h (v:=a.eval x) (by simp[execOp,ho,e]) h1 h2
  ·cases h
 ·rename_i f y c hx
  obtain⟨h1,h2⟩:=hs.ev1 hx (by simp)
  have h1':=h1
  obtain⟨b,q,arr,e,fr,e1,_⟩:=h1
  exact B1.one hs h (v:=a.eval x) (by simp[execOp,ho,e1]) h1' h2
 ·rename_i g cs hx
  obtain⟨h1,h2⟩:=hs.ev1 hx (by simp)
  have h1':=h1
  obtain⟨vs,e1,_⟩:=h1
  exact B1.one hs h (v:=a.eval x) (by simp[execOp,ho,e1]) h1' h2
 ·cases h
theorem A9g (hs:Sim X σ a w G){o:Oper}{c:Call}{x y:Operand}(ho:o.op= .call c)(hc:c.callee= .builtin .max)(hargs:c.args.toList=[x,y])(h:A4j o x y σ=some (true,σ')):B1 P X o σ' a w:=by
 unfold A4j at h
 split at h
 ·rename_i k p j q hx hy
  have h1:=(hs.ev1 hx (by simp)).1
  have h2:=(hs.ev1 hy (by simp)).1
  simp only[A5]at h1 h2
  have hargs':c.args=#[x,y]:=by rw[←Array.toArray_toList (xs:=c.args),hargs]
  refine B1.one hs h (v:= .int k (bif decide (p<q)then q else p)) ?_ rfl (by simp[A0.refs])
  have e:(bif decide (p<q)then q else p)=if q>p then q else p:=by
   by_cases hpq:p<q<;>simp[hpq]
  simp[execOp,ho,resolve,hc,hargs',h1,h2,invoke,builtin,run_max_int2,e]
 ·cases h
theorem A7g {α:Type}{c:Array α}{x:α}(h:c.toList=[x]):c=#[x]:=by rw[←Array.toArray_toList (xs:=c),h]
theorem A4r {α:Type}{c:Array α}{x y:α}(h:c.toList=[x,y]):c=#[x,y]:=by rw[←Array.toArray_toList (xs:=c),h]
theorem V4 {α:Type}{c:Array α}{x:α}{t:List α}(h:c.toList=x::t):c[0]?=some x:=by rw[←Array.getElem?_toList,h];rfl
theorem A0d {α:Type}{c:Array α}{x y:α}{t:List α}(h:c.toList=x::y::t):c[1]?=some y:=by rw[←Array.getElem?_toList,h];rfl
theorem A2.slVal {o:Bool}{h:Array Obj}{f:Kd}{xs:List f.T}{v:Value}{S:Nat→Prop}(hc:A2 o h (.sl f) xs [v] S):∃p c,v= .slice p xs.length c:=by
 simp only[A2]at hc
 rcases hc with⟨rfl,p,c,e,_⟩|⟨b,off,cap,arr,e,fr,ow,e1,_⟩
 ·simp at e;exact⟨p,c,e⟩
 ·simp at e1;exact⟨_,_,e1⟩
theorem E7.hvVal {r:Nat}{f:Kd}{xs:List f.T}{h:Array Obj}(hr:E7 X σ h G r (.data f xs)):∃p c,G.hv r= .slice p xs.length c:=by
 rcases hr with⟨rfl,e⟩|⟨b,cap,arr,e,fr,ow,e1,_⟩
 ·exact⟨none,0,e⟩
 ·exact⟨_,_,e1⟩
theorem run_len_slice {t:TypeId}{e:TypeId}(hu:P.underlying t=some (.slice e)){ts:Array TypeId}(ht:ts[0]?=some t){ty:TypeId}{p:Option Addr}{n c:Nat}:
  (Builtin.len_ ts ty #[.slice p n c]).run P w= .ok (.int .i64 n) w:=by
 simp[Builtin.len_,ht,underlying,hu,goInt]
theorem run_len_string {t:TypeId}(hu:P.underlying t=some .string){ts:Array TypeId}(ht:ts[0]?=some t){ty:TypeId}{s:ByteArray}:
  (Builtin.len_ ts ty #[.string s]).run P w= .ok (.int .i64 s.size) w:=by
 simp[Builtin.len_,ht,underlying,hu,goInt]
theorem P0:∀(f:Kd) (x:f.T),(E2 f x).length=f.size
 | .int _,_=>rfl
 | .bool,_=>rfl
 | .str,_=>rfl
 | .sl _,_=>rfl
 | .pair a b,p=>by simp[E2,Kd.size,P0 a p.1,P0 b p.2]
theorem A1b (r i:Nat):∀(f:Kd) (x:f.T) (c:Nat),(H2 r i f x c).length=f.size
 | .int _,_,_=>rfl
 | .bool,_,_=>rfl
 | .str,_,_=>rfl
 | .sl _,_,_=>rfl
 | .pair a b,p,c=>by simp[H2,Kd.size,A1b r i a p.1,A1b r i b p.2]
theorem A2.cell {o:Bool}{h:Array Obj}:∀{f:Kd} {x:f.T} {vs:List Value} {S:Nat→Prop} {c:Nat} {g:Kd} {ys:List g.T},A2 o h f x vs S→E3 f x c=some ⟨g,ys⟩→
  ∃v,vs[c]?=some v∧∃S',(∀q,S' q→S q)∧A2 o h (.sl g) ys [v] S'
 | .int _,_,_,_,c,g,ys,_,h=>by simp[E3]at h
 | .bool,_,_,_,c,g,ys,_,h=>by simp[E3]at h
 | .str,_,_,_,c,g,ys,_,h=>by simp[E3]at h
 | .sl f,xs,vs,S,0,g,ys,hc,h=>by
  simp only[E3,zO,Sigma.mk.injEq]at h
  obtain⟨rfl,h⟩:=h
  obtain rfl:=eq_of_heq h
  have hl:=hc.len
  match vs,hl with
  |[v],_=>exact⟨v,rfl,S,fun _ h=>h,hc⟩
 | .sl f,xs,vs,S,c+1,g,ys,hc,h=>by simp[E3]at h
 | .pair a b,p,vs,S,c,g,ys,hc,h=>by
  simp only[A2]at hc
  obtain⟨v1,v2,side,rfl,h1,h2⟩:=hc
  simp only[E3]at h
  cases hb:Nat.blt c a.size
  ·rw[hb,zA]at h
   obtain⟨v,hv,S',hS,hr⟩:=A2.cell h2 h
   have hge:a.size≤c:=by have:=Nat.blt_eq (x:=c) (y:=a.size);rw[hb]at this;simp at this;omega
   exact⟨v,by rw[List.getElem?_append_right (by rw[h1.len];exact hge),h1.len];exact hv,S',fun q hq=>(hS q hq).1,hr⟩
  ·rw[hb,zB]at h
   obtain⟨v,hv,S',hS,hr⟩:=A2.cell h1 h
   have hlt:c<a.size:=by have:=Nat.blt_eq (x:=c) (y:=a.size);rw[hb]at this;simpa using this
   exact⟨v,by rw[List.getElem?_append_left (by rw[h1.len];exact hlt)];exact hv,S',fun q hq=>(hS q hq).1,hr⟩
theorem C5 {arr:Array Value}{o n c:Nat}(hc:c<n):(seg arr o n)[c]?=arr[o+c]?:=by
 simp[seg,hc]
theorem Sim.pa (hs:Sim X σ a w G){r i c:Nat}{f:Kd}{xs:List f.T}{g:Kd}{ys:List g.T}{v:Value}(hl:A5 X σ w.heap G (.pa r i c) v)(hr:σ.look r=some (.data f xs))
  (hc:E3 f (xs.getD i f.zero) c=some ⟨g,ys⟩):∃S,A2 X.deep w.heap (.sl g) ys [v] S∧(X.deep=false→∀q,S q→Imm X σ w.heap G q):=by
 obtain⟨hi,hcs,b,n,cap,arr,e,fr,e1,e2,e3⟩:=hl.2 f xs (St.dat_of hr)
 rcases hs.row r _ hr with⟨_,e'⟩|⟨b',cap',arr',e',fr',ow,d1,d2,d3,d4,d5,d6,d7⟩
 ·rw[e1]at e';simp at e'
 ·rw[e1]at d1;simp at d1;obtain⟨rfl,_⟩:=d1
  rw[e2]at d4;obtain⟨rfl,rfl,rfl⟩:arr=arr'∧e=e'∧fr=fr':=by simpa using d4
  have hx:xs[i]?=some xs[i]:=List.getElem?_eq_getElem hi
  have hg:xs.getD i f.zero=xs[i]:=by simp[List.getD,hx]
  rw[hg]at hc
  obtain⟨u,hu,S',hS,hr'⟩:=(d7 i _ hx).cell hc
  rw[C5 hcs,e3]at hu
  obtain rfl:=oI hu
  refine⟨S',hr',fun hd q hq=>?_⟩
  have:=hS q hq
  unfold C0 at this
  rw[if_neg (by simp[hd])]at this
  exact this
theorem A9f (hE:B4 P E)(hs:Sim X σ a w G){o:Oper}{c:Call}{x:Operand}{t:TypeId}{ts:List TypeId}(ho:o.op= .call c)(hc:c.callee= .builtin .len)(hargs:c.args.toList=[x])
  (hts:c.argTypes.toList=t::ts) (h:A4i E o t x σ=some (true,σ')):B1 P X o σ' a w:=by
 have hargs':=A7g hargs
 have ht:=V4 hts
 have sl:∀(n:Nat),(∃p q,a.eval x= .slice p n q)→E.isSl t=true→σ.put1 o (.int .i64 n)=some (true,σ')→B1 P X o σ' a w:=by
  intro n ⟨p,q,e⟩ hsl h
  obtain⟨d,hd⟩:=hE.isSl hsl
  exact B1.one hs h (by simp[execOp,ho,resolve,hc,hargs',e,invoke,builtin,run_len_slice hd ht]) rfl (by simp[A0.refs])
 unfold A4i at h
 split at h
 ·rename_i s hx
  cases hst:E.isStr t<;>simp only[hst,zB,zA]at h
  ·cases h
  have h1:=(hs.ev1 hx (by simp)).1
  simp only[A5]at h1
  exact B1.one hs h (by simp[execOp,ho,resolve,hc,hargs',h1,invoke,builtin,run_len_string (hE.isStr hst) ht]) rfl (by simp[A0.refs])
 ·rename_i hx
  cases hsl:E.isSl t<;>simp only[hsl,zB,zA]at h
  ·cases h
  exact sl 0 ⟨none,0,(hs.ev1 hx (by simp)).1⟩ hsl h
 ·rename_i f xs hx
  cases hsl:E.isSl t<;>simp only[hsl,zB,zA]at h
  ·cases h
  exact sl _ (A2.slVal (hs.ev1 hx (by simp)).1) hsl h
 ·rename_i r hx
  split at h
  ·rename_i f xs hr
   cases hsl:E.isSl t<;>simp only[hsl,zB,zA]at h
   ·cases h
   have h1:=(hs.ev1 hx (by simp)).1.2 f xs (St.dat_of hr)
   exact sl _ (by rw[h1];exact(hs.row r _ hr).hvVal) hsl h
  ·cases h
 ·rename_i r off len hx
  split at h
  ·rename_i f xs hr
   cases hsl:E.isSl t<;>simp only[hsl,zB,zA]at h
   ·cases h
   obtain⟨_,h1⟩:=(hs.ev1 hx (by simp)).1.2 f xs (St.dat_of hr)
   refine sl len ?_ hsl h
   rcases h1 with⟨rfl,p,q,e⟩|⟨b,n,cap,c',_,e,_⟩
   ·exact⟨p,q,e⟩
   ·exact⟨_,_,e⟩
  ·cases h
 ·rename_i r i c' hx
  split at h
  ·rename_i f xs hr
   split at h
   ·rename_i q hq
    cases hsl:E.isSl t<;>simp only[hsl,zB,zA]at h
    ·cases h
    obtain⟨S,h1,_⟩:=hs.pa (g:=q.1) (ys:=q.2) (hs.ev1 hx (by simp)).1 hr hq
    exact sl _ (A2.slVal h1) hsl h
   ·cases h
  ·cases h
 ·cases h
theorem A7s:∀{ls ms:List A0} {us vs:List Value} {e:Bool},A0c E ls ms=some e→A7 (A5 X σ w.heap G) ls us→A7 (A5 X σ w.heap G) ms vs→H8 us vs=some e:=by
 intro ls
 induction ls with
 |nil=>
  intro ms us vs e h h1 h2
  cases ms with
  |nil=>cases h1;cases h2;simpa[A0c,H8]using h
  |cons m ms=>simp[A0c]at h
 |cons l ls ih=>
  intro ms us vs e h h1 h2
  cases ms with
  |nil=>cases l<;>simp[A0c]at h
  |cons m ms=>
   cases h1 with
   |cons r1 t1=>
    cases h2 with
    |cons r2 t2=>
     cases l<;>cases m<;>simp only[A0c]at h<;>try (cases h)
     ·simp only[A5]at r1 r2
      subst r1 r2
      rename_i k n j m
      simp only[H8]
      cases hk:decide (k=j)<;>simp only[hk,zB,zA]at h⊢
      ·cases h
      ·obtain⟨q,hq,rfl⟩:=oM h
       rw[ih hq t1 t2];rfl
     ·simp only[A5]at r1 r2
      subst r1 r2
      simp only[H8]
      obtain⟨q,hq,rfl⟩:=oM h
      rw[ih hq t1 t2];rfl
     ·simp only[A5]at r1 r2
      subst r1 r2
      simp only[H8]
      obtain⟨q,hq,rfl⟩:=oM h
      rw[ih hq t1 t2];rfl
theorem A1v {h:Array Obj}:∀{f:Kd} {ls rest:List A0} {vs:List Value},N7 f ls=some rest→A7 (A5 X σ h G) ls vs→∃v1 v2,vs=v1++v2∧P6 f v1∧A7 (A5 X σ h G) rest v2
 | .int k,ls,rest,vs,hm,hl=>by
  match ls,hm with
  | .int j n::t,hm2=>
   simp only[N7]at hm2
   cases hd:decide (j=k)<;>simp only[hd,zB,zA]at hm2
   ·cases hm2
   ·rw[zG]at hd
    obtain rfl:=oI hm2
    subst hd
    cases hl with
    |cons r tl=>exact⟨[_],_,rfl,⟨n,by rw[r]⟩,tl⟩
 | .bool,ls,rest,vs,hm,hl=>by
  match ls,hm with
  | .bool b::t,hm2=>
   obtain rfl:=oI hm2
   cases hl with
   |cons r tl=>exact⟨[_],_,rfl,⟨b,by rw[r]⟩,tl⟩
 | .str,ls,rest,vs,hm,hl=>by
  match ls,hm with
  | .str b::t,hm2=>
   obtain rfl:=oI hm2
   cases hl with
   |cons r tl=>exact⟨[_],_,rfl,⟨b,by rw[r]⟩,tl⟩
 | .sl f,ls,rest,vs,hm,hl=>by cases ls<;>simp[N7]at hm
 | .pair a b,ls,rest,vs,hm,hl=>by
  have hm':(N7 a ls).bind (N7 b)=some rest:=by cases ls<;>simpa[N7]using hm
  obtain⟨r,h1,h2⟩:=oB hm'
  obtain⟨v1,v2,rfl,k1,k2⟩:=A1v h1 hl
  obtain⟨v3,v4,rfl,k3,k4⟩:=A1v h2 k2
  exact⟨v1++v3,v4,by simp,⟨v1,v3,rfl,k1,k3⟩,k4⟩
theorem A92 {h:Array Obj}{f:Kd}{ls:List A0}{vs:List Value}(hm:A5x f ls=true)(hl:A7 (A5 X σ h G) ls vs):P6 f vs:=by
 unfold A5x at hm
 split at hm
 ·rename_i hk
  obtain⟨v1,v2,rfl,k1,k2⟩:=A1v hk hl
  cases k2
  rw[zH1];exact k1
 ·cases hm
theorem A9c (hE:B4 P E)(hQ:U2 P E)(hs:Sim X σ a w G){o:Oper}{op:BinOp}{t u:TypeId}{x y:Operand}(ho:o.op= .binOp op t x y u)
  (h:A4h E o op t x y σ=some (true,σ')):B1 P X o σ' a w:=by
 unfold A4h at h
 have putC:∀(c:Bool) (l:A0) (v:Value),some (c,σ.put o.dst (.v (.one l)))=some (true,σ')→(c=true→(execOp a.eval o).run P w= .ok (.value v) w)→A5 X σ w.heap G l v→l.refs=[]→B1 P X o σ' a w:=by
  intro c l v e hrun hl hr
  obtain⟨hc,rfl⟩:=zQ (oI e)
  exact B1.put hs (hrun hc) (Or.inr hl) (by simp[AV.refs_one,hr])
 split at h
 ·rename_i k p j q hx hy
  have h1:=(hs.ev hx).1
  have h2:=(hs.ev hy).1
  replace h1:a.eval x= .int k p:=h1.resolve_left (by simp)
  replace h2:a.eval y= .int j q:=h2.resolve_left (by simp)
  by_cases hkj:k=j
  ·subst hkj
   simp only[zI,zB]at h
   cases op<;>simp only[]at h
   case shl=>
    refine putC _ _ _ h (fun hr=>?_) rfl rfl
    rw[zG]at hr
    simp[execOp,ho,h1,h2,eqGuard,binOp,Op.shift,show¬q<0 by omega]
   case shr=>
    refine putC _ _ _ h (fun hr=>?_) rfl rfl
    rw[zG]at hr
    simp[execOp,ho,h1,h2,eqGuard,binOp,Op.shift,show¬q<0 by omega]
   case quo=>
    refine putC _ _ _ h (fun hr=>?_) rfl rfl
    simp at hr
    simp[execOp,ho,h1,h2,eqGuard,binOp,Op.intDiv,hr]
   case rem=>
    refine putC _ _ _ h (fun hr=>?_) rfl rfl
    simp at hr
    simp[execOp,ho,h1,h2,eqGuard,binOp,Op.intDiv,hr]
   case andNot=>cases h
   all_goals exact B1.one hs h (by simp[execOp,ho,h1,h2,eqGuard,binOp,Op.intArith,Op.intBits,Op.intCmp];try rfl) rfl (by simp[A0.refs])
  ·simp only[hkj,zH,zA]at h
   cases op<;>simp only[]at h<;>try (cases h;done)
   case shl=>
    refine putC _ _ _ h (fun hr=>?_) rfl rfl
    rw[zG]at hr
    simp[execOp,ho,h1,h2,eqGuard,binOp,Op.shift,show¬q<0 by omega]
   case shr=>
    refine putC _ _ _ h (fun hr=>?_) rfl rfl
    rw[zG]at hr
    simp[execOp,ho,h1,h2,eqGuard,binOp,Op.shift,show¬q<0 by omega]
 ·rename_i p q hx hy
  have h1:=(hs.ev hx).1
  have h2:=(hs.ev hy).1
  replace h1:a.eval x= .string p:=h1.resolve_left (by simp)
  replace h2:a.eval y= .string q:=h2.resolve_left (by simp)
  cases op<;>simp only[]at h<;>try (cases h;done)
  case add=>
   refine putC _ _ _ h (fun hr=>?_) rfl rfl
   rw[zG]at hr
   have:¬(((p.size+q.size:Nat):Int)>IntKind.i64.max):=by
    have e:IntKind.i64.max=9223372036854775807:=by decide
    rw[e];omega
   simp only[execOp,ho,h1,h2,eqGuard,binOp,Op.stringOp]
   rw[if_neg this]
   simp
  all_goals exact B1.one hs h (by simp[execOp,ho,h1,h2,eqGuard,binOp,Op.stringOp];try rfl) rfl (by simp[A0.refs])
 ·rename_i p q hx hy
  have h1:=(hs.ev hx).1
  have h2:=(hs.ev hy).1
  replace h1:a.eval x= .bool p:=h1.resolve_left (by simp)
  replace h2:a.eval y= .bool q:=h2.resolve_left (by simp)
  cases ht:E.isBool t<;>simp only[ht,zB,zA]at h
  ·cases h
  have hu:=hE.isBool ht
  cases op<;>simp only[]at h<;>try (cases h;done)
  ·exact B1.one hs h (by simp[execOp,ho,h1,h2,eqGuard,run_eql_bool w t p q hu]) rfl (by simp[A0.refs])
  ·exact B1.one hs h (by simp[execOp,ho,h1,h2,eqGuard,run_neq_bool w t p q hu]) rfl (by simp[A0.refs])
 ·rename_i ls ms hx hy
  obtain⟨us,h1,hu⟩:=(hs.ev hx).1
  obtain⟨vs,h2,hv⟩:=(hs.ev hy).1
  split at h
  case h_2=>cases h
  rename_i i hi
  cases hb:E6 t E.eqT&&A5x i.kd ls&&A5x i.kd ms<;>simp only[hb,zB,zA]at h
  ·cases h
  simp only[zJ]at hb
  have hq:∀(e:Bool) (x y:Operand) (w:World),H8 us vs=some e→_:=fun e x y w hse=>hQ t i hb.1.1 hi us vs e x y w hse (A92 hb.1.2 hu) (A92 hb.2 hv)
  cases op<;>simp only[]at h<;>try (cases h;done)
  ·obtain⟨e,he,h⟩:=oB h
   have hse:=A7s (us:=us) (vs:=vs) (e:=e) (ls:=ls) (ms:=ms) he hu hv
   obtain⟨q1,q2,q3⟩:=hq e x y w hse
   exact B1.one hs h (by simp[execOp,ho,h1,h2,q1,binOp,q3]) rfl (by simp[A0.refs])
  ·obtain⟨e,he,h⟩:=oB h
   have hse:=A7s (us:=us) (vs:=vs) (e:=e) (ls:=ls) (ms:=ms) he hu hv
   obtain⟨q1,q2,q3⟩:=hq e x y w hse
   exact B1.one hs h (by simp[execOp,ho,h1,h2,q2,binOp,q3]) rfl (by simp[A0.refs])
 ·cases h
end
end Go.Proofs.Ytalmhjlcjcnidaa.Ev

/- Regions whose order is open: the single operations. -/
import Derived.Test.YtalmhjlcjcnidaaEvDraw1
set_option linter.all false
namespace Go.Proofs.Ytalmhjlcjcnidaa.Ev
open Go
section
variable {E:Env} {deep:Bool} {σ τ σ':St} {o:Oper} {c:Bool}
theorem B04 {f:Kd}{l:A0}(h:∀r∈l.refs,τ.look r=σ.look r):A3s deep τ.rows f l=A3s deep σ.rows f l:=by
 cases l<;>simp only[A3s]
 rename_i r
 have:=h r (by simp[A0.refs])
 simp only[St.look]at this
 rw[this]
theorem A8f {f:Kd}{l:A0}{p:List f.T×List Nat}(h:A3s deep σ.rows f l=some p):∀r∈p.2,r∈l.refs:=by
 cases l<;>simp only[A3s]at h<;>try (cases h;done)
 case sh g xs=>
  cases deep<;>simp only[zB,zA]at h
  ·split at h
   ·obtain rfl:=oI h;simp
   ·cases h
  ·cases h
 case nil=>obtain rfl:=oI h;simp
 case ow r=>
  split at h
  ·split at h
   ·obtain rfl:=oI h;simp[A0.refs]
   ·cases h
  ·cases h
theorem A0a:∀{f:Kd} {ls:List A0} {p:f.T×List Nat×List A0},A4 deep σ.rows f ls=some p→(∀l∈p.2.2,l∈ls)∧∀r∈p.2.1,r∈ls.flatMap A0.refs:=by
 intro f
 induction f with
 |int k=>
  intro ls p h
  cases ls with
  |nil=>simp[A4]at h
  |cons l t=>
   cases l<;>simp only[A4]at h<;>try (cases h;done)
   rename_i j n
   cases hk:decide (j=k)<;>simp only[hk,zB,zA]at h
   ·cases h
   ·obtain rfl:=oI h
    exact⟨fun l hl=>zF _ hl,by simp⟩
 |bool=>
  intro ls p h
  cases ls with
  |nil=>simp[A4]at h
  |cons l t=>
   cases l<;>simp only[A4]at h<;>try (cases h;done)
   obtain rfl:=oI h
   exact⟨fun l hl=>zF _ hl,by simp⟩
 |str=>
  intro ls p h
  cases ls with
  |nil=>simp[A4]at h
  |cons l t=>
   cases l<;>simp only[A4]at h<;>try (cases h;done)
   obtain rfl:=oI h
   exact⟨fun l hl=>zF _ hl,by simp⟩
 |sl f _=>
  intro ls p h
  cases ls with
  |nil=>simp[A4]at h
  |cons l t=>
   simp only[A4]at h
   obtain⟨q,hq,h⟩:=oB h
   obtain rfl:=oI h
   refine⟨fun l hl=>zF _ hl,fun r hr=>?_⟩
   simp only[zV,zY]
   exact .inl (A8f hq r hr)
 |pair a b iha ihb=>
  intro ls p h
  have h':((A4 deep σ.rows a ls).bind fun q=>(A4 deep σ.rows b q.2.2).bind fun p=>some ((q.1,p.1),q.2.1++p.2.1,p.2.2))=some p:=by
   cases ls<;>simpa[A4]using h
  obtain⟨q,ha,h'⟩:=oB h'
  obtain⟨q2,hb,h'⟩:=oB h'
  obtain rfl:=oI h'
  obtain⟨a1,a2⟩:=iha ha
  obtain⟨b1,b2⟩:=ihb hb
  refine⟨fun l hl=>a1 l (b1 l hl),fun r hr=>?_⟩
  rcases zY.mp hr with hr|hr
  ·exact a2 r hr
  ·have:=b2 r hr
   simp only[zB1]at this⊢
   obtain⟨l,hl,hr⟩:=this
   exact⟨l,a1 l hl,hr⟩
theorem A2j:∀{f:Kd} {ls:List A0},(∀r∈ls.flatMap A0.refs,τ.look r=σ.look r)→A4 deep τ.rows f ls=A4 deep σ.rows f ls:=by
 intro f
 induction f with
 |int k=>
  intro ls _
  cases ls with
  |nil=>rfl
  |cons l t=>cases l<;>rfl
 |bool=>
  intro ls _
  cases ls with
  |nil=>rfl
  |cons l t=>cases l<;>rfl
 |str=>
  intro ls _
  cases ls with
  |nil=>rfl
  |cons l t=>cases l<;>rfl
 |sl f _=>
  intro ls h
  cases ls with
  |nil=>rfl
  |cons l t=>
   simp only[A4]
   rw[B04 (σ:=σ) (τ:=τ) fun r hr=>h r (by simp only[zV,zY];exact .inl hr)]
 |pair a b iha ihb=>
  intro ls h
  have e:∀ρ:St,A4 deep ρ.rows (.pair a b) ls=((A4 deep ρ.rows a ls).bind fun q=>(A4 deep ρ.rows b q.2.2).bind fun p=>some ((q.1,p.1),q.2.1++p.2.1,p.2.2)):=by
   intro ρ;cases ls<;>simp[A4]
  rw[e τ,e σ,iha h]
  cases ha:A4 deep σ.rows a ls with
  |none=>rfl
  |some q=>
   simp only[zC]
   rw[ihb fun r hr=>h r (by
    simp only[zB1]at hr⊢
    obtain⟨l,hl,hr⟩:=hr
    exact⟨l,(A0a ha).1 l hl,hr⟩)]
theorem A23 {l:A0}(h:∀r∈l.refs,∀q∈σ.below r,τ.look q=σ.look q):H3 τ l=H3 σ l:=by
 cases l<;>simp only[H3]
 case ow r=>rw[h r (by simp[A0.refs]) r (B5 r)]
 case sub r _ _=>rw[h r (by simp[A0.refs]) r (B5 r)]
 case pa r _ _=>rw[h r (by simp[A0.refs]) r (B5 r)]
 case clo g caps=>
  congr 1
  have hc:∀cp∈caps,∀r,cp= .own r→∀q∈σ.below r,τ.look q=σ.look q:=fun cp hcp r e=>h r (by
   simp only[A0.refs,List.mem_filterMap]
   exact⟨cp,hcp,by rw[e]⟩)
  clear h
  induction caps with
  |nil=>rfl
  |cons cp t ih=>
   rw[List.mapM_cons,List.mapM_cons,ih fun cp hcp=>hc cp (zF _ hcp)]
   congr 1
   cases cp with
   |sh f x=>rfl
   |own r=>
    have hb:=hc (.own r) (zM ..) r rfl
    simp only
    rw[hb r (B5 r)]
    split
    ·rename_i f ls hr
     rw[A2j (σ:=σ) (τ:=τ) fun q hq=>hb q (by unfold St.below;rw[hr];exact zF _ hq)]
    ·rfl
theorem A43 {n:Nat}{l:A0}(h:∀r∈l.refs,τ.look r=σ.look r):R0 deep τ n l=R0 deep σ n l:=by
 cases l<;>simp only[R0]
 rename_i r i c
 rw[h r (by simp[A0.refs])]
theorem B0v {t:Nat}{a:Operand}(hx:τ.ev1 a=σ.ev1 a)(hl:∀l,σ.ev1 a=some l→∀r∈l.refs,τ.look r=σ.look r)(h:A0n E deep o t a σ=some (c,σ')):Quiet o σ σ' τ (A0n E deep o t a) c:=by
 unfold A0n at h
 obtain⟨x,h1,h2⟩:=oB h
 obtain⟨rfl,rfl⟩:=zQ (oI h2)
 refine⟨.v x,rfl,?_⟩
 unfold A0n
 have:loadT E deep t a τ=some x:=by
  unfold loadT at h1⊢
  rw[hx]
  split at h1
  ·rename_i i l _ hl'
   rw[A43 (hl l hl')];exact h1
  ·cases h1
 rw[this];rfl
theorem B0x {p a b:Operand}(h1:τ.ev p=σ.ev p)(h2:τ.ev a=σ.ev a)(h3:τ.ev b=σ.ev b)(h:A1z o p a b σ=some (c,σ')):Quiet o σ σ' τ (A1z o p a b) c:=by
 unfold Quiet
 unfold A1z at h⊢
 unfold St.ev1 at h⊢
 rw[h1,h2,h3]
 split at h
 all_goals first
  |(cases h;done)
  |(simp only[St.put1,okS,zO,zR]at h⊢;obtain⟨rfl,rfl⟩:=h;exact⟨_,rfl,by first|trivial|simp_all⟩)
theorem B1o {x:Operand}(hx:τ.ev1 x=σ.ev1 x)(hl:∀l,σ.ev1 x=some l→∀r∈l.refs,τ.look r=σ.look r)(h:M3 o x σ=some (c,σ')):Quiet o σ σ' τ (M3 o x) c:=by
 unfold Quiet
 unfold M3 at h⊢
 rw[hx]
 split at h
 ·rename_i r i k hr
  try simp only[hr]
  rw[hl _ hr r (by simp[A0.refs])]
  split at h
  ·rename_i h';try simp only[h']
   simp only[St.put1,okS,zO,zR]at h;obtain⟨rfl,rfl⟩:=h;exact⟨_,rfl,rfl⟩
  ·rename_i h';try simp only[h']
   simp only[St.put1,okS,zO,zR]at h;obtain⟨rfl,rfl⟩:=h;exact⟨_,rfl,rfl⟩
  ·rename_i h';try simp only[h']
   simp only[St.put1,okS,zO,zR]at h;obtain⟨rfl,rfl⟩:=h;exact⟨_,rfl,rfl⟩
  ·cases h
 ·rename_i hr;try simp only[hr]
  simp only[St.put1,okS,zO,zR]at h;obtain⟨rfl,rfl⟩:=h;exact⟨_,rfl,rfl⟩
 ·rename_i hr;try simp only[hr]
  simp only[St.put1,okS,zO,zR]at h;obtain⟨rfl,rfl⟩:=h;exact⟨_,rfl,rfl⟩
 ·cases h
theorem B23 {op:UnOp}{x:Operand}(hx:τ.ev1 x=σ.ev1 x)(h:A87 o op x σ=some (c,σ')):Quiet o σ σ' τ (A87 o op x) c:=by
 unfold Quiet
 unfold A87 at h⊢
 rw[hx]
 split at h
 ·rename_i hr;try simp only[hr]
  simp only[St.put1,okS,zO,zR]at h;obtain⟨rfl,rfl⟩:=h;exact⟨_,rfl,rfl⟩
 ·rename_i hr;try simp only[hr]
  simp only[St.put1,okS,zO,zR]at h;obtain⟨rfl,rfl⟩:=h;exact⟨_,rfl,rfl⟩
 ·cases h
theorem B1d {op:BinOp}{t:Nat}{x y:Operand}(hx:τ.ev x=σ.ev x)(hy:τ.ev y=σ.ev y)(h:A4h E o op t x y σ=some (c,σ')):Quiet o σ σ' τ (A4h E o op t x y) c:=by
 have key:∀(u v:Option AV) (f g:Option (Bool×St)),f=g→f=some (c,σ')→g=some (c,σ'):=fun _ _ _ _ e h=>e▸h
 unfold Quiet
 unfold A4h at h⊢
 rw[hx,hy]
 generalize σ.ev x=u at h⊢
 generalize σ.ev y=v at h⊢
 split at h
 ·rename_i k a j b
  cases op<;>simp only at h⊢
  all_goals first
   |(simp only[zO,zR]at h;obtain⟨rfl,rfl⟩:=h;exact⟨_,rfl,rfl⟩)
   |(cases hd:decide (k=j)<;>simp only[hd,zB,zA]at h⊢<;>first
     |(cases h;done)
     |(simp only[St.put1,okS,zO,zR]at h;obtain⟨rfl,rfl⟩:=h;exact⟨_,rfl,rfl⟩))
 ·rename_i a b
  cases op<;>simp only at h⊢
  all_goals first
   |(cases h;done)
   |(simp only[St.put1,okS,zO,zR]at h;obtain⟨rfl,rfl⟩:=h;exact⟨_,rfl,rfl⟩)
 ·rename_i a b
  cases hd:E.isBool t<;>simp only[hd,zB,zA]at h⊢
  ·cases h
  ·cases op<;>simp only at h⊢
   all_goals first
    |(cases h;done)
    |(simp only[St.put1,okS,zO,zR]at h;obtain⟨rfl,rfl⟩:=h;exact⟨_,rfl,rfl⟩)
 ·rename_i a b
  cases hi:E.ty t with
  |none=>rw[hi]at h;cases h
  |some i=>
   rw[hi]at h
   simp only at h⊢
   generalize (E6 t E.eqT&&A5x i.kd a&&A5x i.kd b)=bb at h⊢
   cases bb<;>simp only[zB,zA]at h⊢
   ·cases h
   ·cases op<;>simp only at h⊢
    all_goals first
     |(cases h;done)
     |(obtain⟨e,he,h⟩:=oB h;simp only[St.put1,okS,zO,zR]at h;obtain⟨rfl,rfl⟩:=h;exact⟨_,rfl,by rw[he];rfl⟩)
 ·cases h
theorem A5r {s:Nat}{x:Operand}{f:Nat}(hx:τ.ev1 x=σ.ev1 x)(hl:∀l,σ.ev1 x=some l→∀r∈l.refs,τ.look r=σ.look r)(h:K9 E o s x f σ=some (c,σ')):Quiet o σ σ' τ (K9 E o s x f) c:=by
 unfold Quiet
 unfold K9 at h⊢
 rw[hx]
 split at h
 ·rename_i i l hi hr
  try simp only[hr]
  obtain⟨d,hd,h⟩:=oB h
  simp only[hd,zC]
  cases l<;>simp only at h⊢<;>try (cases h;done)
  ·rename_i r j k _
   rw[hl _ hr r (by simp[A0.refs])]
   split at h
   ·rename_i h';try simp only[h']
    simp only[St.put1,okS,zO,zR]at h;obtain⟨rfl,rfl⟩:=h;exact⟨_,rfl,rfl⟩
   ·rename_i h';try simp only[h']
    simp only[St.put1,okS,zO,zR]at h;obtain⟨rfl,rfl⟩:=h;exact⟨_,rfl,rfl⟩
   ·rename_i h';try simp only[h']
    simp only[St.put1,okS,zO,zR]at h;obtain⟨rfl,rfl⟩:=h;exact⟨_,rfl,rfl⟩
   ·cases h
  ·simp only[St.put1,okS,zO,zR]at h;obtain⟨rfl,rfl⟩:=h;exact⟨_,rfl,rfl⟩
 ·cases h
theorem A5v {t:Nat}{x i:Operand}(hx:τ.ev1 x=σ.ev1 x)(hi:τ.ev1 i=σ.ev1 i)(hl:∀l,σ.ev1 x=some l→∀r∈l.refs,τ.look r=σ.look r)(h:G8 E o t x i σ=some (c,σ')):Quiet o σ σ' τ (G8 E o t x i) c:=by
 unfold Quiet
 unfold G8 at h⊢
 rw[hx,hi]
 split at h
 ·rename_i h1 h2
  try simp only[h1,h2]
  rename_i k n f xs
  cases hb:E.isEl t f<;>simp only[hb,zB,zA]at h⊢
  ·cases h
  ·simp only[zO,zR]at h;obtain⟨rfl,rfl⟩:=h;exact⟨_,rfl,rfl⟩
 ·rename_i h1 h2
  try simp only[h1,h2]
  rename_i k n r
  rw[hl _ h2 r (by simp[A0.refs])]
  split at h
  ·rename_i f xs hr
   try simp only[hr]
   cases hb:E.isEl t f<;>simp only[hb,zB,zA]at h⊢
   ·cases h
   ·simp only[zO,zR]at h;obtain⟨rfl,rfl⟩:=h;exact⟨_,rfl,rfl⟩
  ·rename_i f xs _ _ _ hr
   try simp only[hr]
   cases hb:E.isEl t f<;>simp only[hb,zB,zA]at h⊢
   ·cases h
   ·simp only[zO,zR]at h;obtain⟨rfl,rfl⟩:=h;exact⟨_,rfl,rfl⟩
  ·cases h
 ·rename_i h1 h2
  try simp only[h1,h2]
  rename_i k n r off len
  rw[hl _ h2 r (by simp[A0.refs])]
  split at h
  ·rename_i f xs hr
   try simp only[hr]
   cases hb:E.isEl t f<;>simp only[hb,zB,zA]at h⊢
   ·cases h
   ·simp only[zO,zR]at h;obtain⟨rfl,rfl⟩:=h;exact⟨_,rfl,rfl⟩
  ·cases h
 ·cases h
theorem A9z {t:Nat}{x i:Operand}(hx:τ.ev1 x=σ.ev1 x)(hi:τ.ev1 i=σ.ev1 i)(h:A03 E o t x i σ=some (c,σ')):Quiet o σ σ' τ (A03 E o t x i) c:=by
 unfold Quiet
 unfold A03 at h⊢
 rw[hx,hi]
 split at h
 ·rename_i h1 h2
  try simp only[h1,h2]
  cases hb:E.isStr t<;>simp only[hb,zB,zA]at h⊢
  ·cases h
  ·simp only[zO,zR]at h;obtain⟨rfl,rfl⟩:=h;exact⟨_,rfl,rfl⟩
 ·cases h
theorem A81 {x:Operand}{k:Nat}(hx:τ.ev x=σ.ev x)(h:P4 o x k σ=some (c,σ')):Quiet o σ σ' τ (P4 o x k) c:=by
 unfold Quiet
 unfold P4 at h⊢
 rw[hx]
 split at h
 ·rename_i vs hv
  try simp only[hv]
  split at h
  ·rename_i y hy
   try simp only[hy]
   simp only[okS,zO,zR]at h;obtain⟨rfl,rfl⟩:=h;exact⟨_,rfl,rfl⟩
  ·cases h
 ·cases h
theorem A5f {x:Option Operand}{d:Nat}(h:∀y,x=some y→τ.ev1 y=σ.ev1 y):bound τ x d=bound σ x d:=by
 cases x with
 |none=>rfl
 |some y=>simp only[bound];rw[h y rfl]
theorem B05 {t:Nat}{x:Operand}{lo hi mx:Option Operand}(hx:τ.ev1 x=σ.ev1 x)(hlo:∀y,lo=some y→τ.ev1 y=σ.ev1 y)(hhi:∀y,hi=some y→τ.ev1 y=σ.ev1 y)
  (hl:∀l,σ.ev1 x=some l→∀r∈l.refs,τ.look r=σ.look r) (h:A04 E o t x lo hi mx σ=some (c,σ')):Quiet o σ σ' τ (A04 E o t x lo hi mx) c:=by
 unfold Quiet
 unfold A04 at h⊢
 simp only[A5f (σ:=σ) (τ:=τ) hlo,A5f (σ:=σ) (τ:=τ) hhi]
 rw[hx]
 split at h
 ·rename_i h1
  try simp only[h1]
  cases hb:E.isStr t<;>simp only[hb,zB,zA]at h⊢
  ·cases h
  ·split at h
   ·rename_i h2 h3
    try simp only[h2,h3]
    simp only[zO,zR]at h;obtain⟨rfl,rfl⟩:=h;exact⟨_,rfl,rfl⟩
   ·cases h
 ·rename_i f xs h1
  try simp only[h1]
  cases hb:E.isEl t f<;>simp only[hb,zB,zA]at h⊢
  ·cases h
  ·split at h
   ·rename_i h2 h3
    try simp only[h2,h3]
    simp only[zO,zR]at h;obtain⟨rfl,rfl⟩:=h;exact⟨_,rfl,rfl⟩
   ·cases h
 ·rename_i r h1
  try simp only[h1]
  rw[hl _ h1 r (by simp[A0.refs])]
  split at h
  ·rename_i f xs hr
   try simp only[hr]
   cases hb:E.isEl t f<;>simp only[hb,zB,zA]at h⊢
   ·cases h
   ·split at h
    ·rename_i h2 h3
     try simp only[h2,h3]
     simp only[zO,zR]at h;obtain⟨rfl,rfl⟩:=h;exact⟨_,rfl,rfl⟩
    ·cases h
  ·cases h
 ·rename_i r off len h1
  try simp only[h1]
  rw[hl _ h1 r (by simp[A0.refs])]
  split at h
  ·rename_i f xs hr
   try simp only[hr]
   cases hb:E.isEl t f<;>simp only[hb,zB,zA]at h⊢
   ·cases h
   ·split at h
    ·rename_i h2 h3
     try simp only[h2,h3]
     simp only[zO,zR]at h;obtain⟨rfl,rfl⟩:=h;exact⟨_,rfl,rfl⟩
    ·cases h
  ·cases h
 ·cases h
theorem B1l {t:Nat}{x:Operand}(hx:τ.ev1 x=σ.ev1 x)(hl:∀l,σ.ev1 x=some l→∀r∈l.refs,τ.look r=σ.look r)(h:A4i E o t x σ=some (c,σ')):Quiet o σ σ' τ (A4i E o t x) c:=by
 have fin:∀{l:A0} {b:Bool},(bif b then σ.put1 o l else none)=some (c,σ')→∃av,σ'=σ.put o.dst av∧(bif b then τ.put1 o l else none)=some (c,τ.put o.dst av):=by
  intro l b h
  cases b<;>simp only[zB,zA]at h⊢
  ·cases h
  ·simp only[St.put1,okS,zO,zR]at h;obtain⟨rfl,rfl⟩:=h;exact⟨_,rfl,rfl⟩
 unfold Quiet
 unfold A4i at h⊢
 rw[hx]
 split at h
 ·rename_i h1;(try simp only[h1]);exact fin h
 ·rename_i h1;(try simp only[h1]);exact fin h
 ·rename_i h1;(try simp only[h1]);exact fin h
 ·rename_i r h1
  try simp only[h1]
  rw[hl _ h1 r (by simp[A0.refs])]
  split at h
  ·rename_i h2;(try simp only[h2]);exact fin h
  ·cases h
 ·rename_i r _ _ h1
  try simp only[h1]
  rw[hl _ h1 r (by simp[A0.refs])]
  split at h
  ·rename_i h2;(try simp only[h2]);exact fin h
  ·cases h
 ·rename_i r _ _ h1
  try simp only[h1]
  rw[hl _ h1 r (by simp[A0.refs])]
  split at h
  ·rename_i h2
   try simp only[h2]
   split at h
   ·rename_i h3;(try simp only[h3]);exact fin h
   ·cases h
  ·cases h
 ·cases h
theorem B1n {x y:Operand}(hx:τ.ev1 x=σ.ev1 x)(hy:τ.ev1 y=σ.ev1 y)(h:A4j o x y σ=some (c,σ')):Quiet o σ σ' τ (A4j o x y) c:=by
 unfold Quiet
 unfold A4j at h⊢
 rw[hx,hy]
 split at h
 ·rename_i h1 h2;try simp only[h1,h2]
  simp only[St.put1,okS,zO,zR]at h;obtain⟨rfl,rfl⟩:=h;exact⟨_,rfl,rfl⟩
 ·cases h
end
end Go.Proofs.Ytalmhjlcjcnidaa.Ev

/- Calls: joined, on the caller's side. -/
import Derived.Test.YtalmhjlcjcnidaaEvTake
set_option linter.all false
namespace Go.Proofs.Ytalmhjlcjcnidaa.Ev
open Go
section
variable {P:Program} {E:Env} {X:Ctx} {σ σ':St} {a:Act} {w w':World} {G:Gh}
theorem H5.append {S:Nat→Prop}{ow:Nat→Option Nat}{h:Array Obj}{ms:List Md}:∀{as bs:List TV} {vs us:List Value} {i:Nat},H5 S ow h ms i as vs→H5 S ow h ms (i+as.length) bs us→H5 S ow h ms i (as++bs) (vs++us)
 |[],bs,vs,us,i,h1,h2=>by simp only[H5]at h1;subst h1;simpa using h2
 |x::as,bs,vs,us,i,h1,h2=>by
  obtain⟨ws,v,vs',rfl,h3,h4,h5⟩:=h1
  exact⟨ws,v,_,rfl,h3,h4,h5.append (by rwa[show i+1+as.length=i+(x::as).length by simp;omega])⟩
theorem H5.len {S:Nat→Prop}{ow:Nat→Option Nat}{h:Array Obj}{ms:List Md}:∀{as:List TV} {vs:List Value} {i:Nat},H5 S ow h ms i as vs→as.length=vs.length
 |[],vs,i,h1=>by simp only[H5]at h1;subst h1;rfl
 |x::as,vs,i,h1=>by
  obtain⟨ws,v,vs',rfl,h3,h4,h5⟩:=h1
  simp[h5.len]
theorem A2h {ms:List Md}{i:Nat}(h:ms.length≤i):B0 ms i= .ro:=by simp[B0,List.getD,List.getElem?_eq_none h]
theorem A5i {S:Nat→Prop}{ow:Nat→Option Nat}{md:List Md}(hI:∀q,Imm X σ w.heap G q→S q):∀{cs:List Cap} {more:List TV} {vs:List Value} (i:Nat),md.length≤i→cs.mapM A8s=some more→A7 (S4 X σ w.heap G) cs vs→H5 S ow w.heap md i more vs
 |[],more,vs,i,_,h,hl=>by simp at h;subst h;cases hl;rfl
 |c::cs,more,vs,i,hi,h,hl=>by
  rw[List.mapM_cons]at h
  obtain⟨m,hm,h⟩:=oB h
  obtain⟨ms',hms,h⟩:=oB h
  obtain rfl:=oI h
  cases hl with
  |cons h1 h2=>
   cases c with
   |own r=>cases hm
   |sh f x=>
    obtain rfl:=oI hm
    exact⟨[_],_,_,rfl,.cons (A3y.mono hI h1) .nil,by rw[A2h hi];exact rfl,A5i hI (i+1) (by omega) hms h2⟩
theorem W7 {ms:List Md}:∀(as:List TV) (vs:List Value) (i:Nat),ms.length≤i→C8 ms i as vs=[]
 |[],vs,i,_=>by simp[C8]
 |x::as,[],i,_=>by simp[C8]
 |x::as,v::vs,i,h=>by
  simp only[C8,A2h h]
  rw[W7 as vs (i+1) (Nat.le_succ_of_le h)];rfl
theorem A09 {ms:List Md}:∀{as:List TV} {vs:List Value} {i:Nat} {more:List TV} {us:List Value},as.length=vs.length→ms.length≤i+as.length→C8 ms i (as++more) (vs++us)=C8 ms i as vs
 |[],[],i,more,us,_,h=>by
  simp only[List.nil_append]
  rw[W7 more us i (by simpa using h)];simp[C8]
 |[],_::_,_,_,_,h,_=>by simp at h
 |_::_,[],_,_,_,h,_=>by simp at h
 |x::as,v::vs,i,more,us,h1,h2=>by
  simp only[List.cons_append,C8]
  rw[A09 (by simpa using h1) (by simp at h2;omega)]
theorem mapM_mem {α β:Type}{f:α→Option β}:∀{ls:List α} {ms:List β},ls.mapM f=some ms→∀l∈ls,∃m∈ms,f l=some m
 |[],ms,h,l,hl=>by simp at hl
 |l'::ls,ms,h,l,hl=>by
  rw[List.mapM_cons]at h
  obtain⟨m,hm,h⟩:=oB h
  obtain⟨ms',hms,h⟩:=oB h
  obtain rfl:=oI h
  rcases List.mem_cons.mp hl with rfl|hl
  ·exact⟨m,by simp,hm⟩
  ·obtain⟨m',h1,h2⟩:=mapM_mem hms l hl
   exact⟨m',by simp[h1],h2⟩
theorem A51 {deep:Bool}{ls ms:List A0}(h:ls.mapM (G4 deep σ)=some ms):∀r∈ls.flatMap A0.refs,σ.live r:=by
 intro r hr
 obtain⟨l,hl,hr⟩:=zB1.mp hr
 obtain⟨m,_,hm'⟩:=mapM_mem h l hl
 cases l<;>simp only[G4]at hm'<;>try (cases hm';done)
 case int=>simp[A0.refs]at hr
 case bool=>simp[A0.refs]at hr
 case str=>simp[A0.refs]at hr
 case sh=>simp[A0.refs]at hr
 case ow r'=>
  simp[A0.refs]at hr;subst hr
  split at hm'
  ·rename_i f ys hlk;exact⟨_,hlk,by simp⟩
  ·cases hm'
theorem A9b {deep:Bool}{y z:TV}(h:y.mapM (G4 deep σ)=some z):∀r∈y.leaves.flatMap A0.refs,σ.live r:=by
 cases y with
 |one l=>
  obtain⟨m,hm,_⟩:=oM h
  exact A51 (deep:=deep) (ls:=[l]) (ms:=[m]) (by simp[hm])
 |agg ls=>
  obtain⟨ms',hm,_⟩:=oM h
  exact A51 hm
theorem A0k:∀ls:List A0,(ls.flatMap L3).map (·.1)=ls.flatMap A0.refs
 |[]=>rfl
 |l::t=>by cases l<;>simp[L3,A0k t,A0.refs,Function.comp_def]
theorem A7j {deep:Bool}{ls ms:List A0}(h:ls.mapM (N2 deep σ)=some ms):∀r∈ls.flatMap A0.refs,σ.live r:=by
 intro r hr
 obtain⟨l,hl,hr⟩:=zB1.mp hr
 obtain⟨m,_,hm'⟩:=mapM_mem h l hl
 cases l<;>simp only[N2,G4]at hm'<;>try (cases hm';done)
 case int=>simp[A0.refs]at hr
 case bool=>simp[A0.refs]at hr
 case str=>simp[A0.refs]at hr
 case sh=>simp[A0.refs]at hr
 case ow r'=>
  simp[A0.refs]at hr;subst hr
  split at hm'
  ·rename_i f ys hlk;exact⟨_,hlk,by simp⟩
  ·cases hm'
 case pa r' i c=>
  simp[A0.refs]at hr;subst hr
  cases deep<;>simp only[zB,zA]at hm'
  ·cases hm'
  split at hm'
  ·rename_i f ys hlk;exact⟨_,hlk,by simp⟩
  ·cases hm'
theorem A8z {deep:Bool}{y z:TV}(h:y.mapM (N2 deep σ)=some z):∀r∈y.leaves.flatMap A0.refs,σ.live r:=by
 cases y with
 |one l=>
  obtain⟨m,hm,_⟩:=oM h
  exact A7j (deep:=deep) (ls:=[l]) (ms:=[m]) (by simp[hm])
 |agg ls=>
  obtain⟨ms',hm,_⟩:=oM h
  exact A7j hm
theorem A3l {deep:Bool}{ms:List Md}:∀{xs:List Operand} {i:Nat} {as:List TV},F9 deep σ ms i xs=some as→(∀r∈C2 σ ms i xs,σ.live r)∧(∀r∈(D8 σ ms i xs).map (·.1),r∈C2 σ ms i xs)∧(distinct (C2 σ ms i xs)=true→distinct ((D8 σ ms i xs).map (·.1))=true)
 |[],i,as,h=>⟨fun r hr=>by simp[C2]at hr,fun r hr=>by simp[D8]at hr,fun _=>rfl⟩
 |x::xs,i,as,h=>by
  simp only[F9]at h
  obtain⟨z,hz,h⟩:=oB h
  obtain⟨zs,hzs,h⟩:=oB h
  obtain⟨k1,k2,k3⟩:=A3l hzs
  simp only[C2,D8,List.map_append]
  cases hm:B0 ms i with
  |ro=>exact⟨by simpa using k1,by simpa using k2,by simpa using k3⟩
  |give=>
   rw[hm]at hz
   simp only[U4]at hz
   obtain⟨y,hy,hz⟩:=oB hz
   rw[M0 hy]
   have hl:=A9b hz
   refine⟨fun r hr=>?_,fun r hr=>?_,fun hd=>?_⟩
   ·rcases zY.mp hr with hr|hr
    ·exact hl r hr
    ·exact k1 r hr
   ·exact zA1 _ (k2 r (by simpa using hr))
   ·exact k3 (distinct_app hd).2.1
  |io=>
   rw[hm]at hz
   simp only[U4]at hz
   obtain⟨y,hy,hz⟩:=oB hz
   rw[M0 hy]
   have hl:=A8z hz
   have hfs:((AV.v y).leaves.flatMap L3).map (·.1)=(AV.v y).refs:=A0k _
   simp only[hfs]
   refine⟨fun r hr=>?_,fun r hr=>?_,fun hd=>?_⟩
   ·rcases zY.mp hr with hr|hr
    ·exact hl r hr
    ·exact k1 r hr
   ·rcases zY.mp hr with hr|hr
    ·exact zZ _ hr
    ·exact zA1 _ (k2 r hr)
   ·exact distinct_mono hd (fun r h=>h) k2 (fun h=>h) k3
  |bx f=>
   rw[hm]at hz
   obtain⟨r,ls,e1,e2,ms',e3,_⟩:=A8o hz
   rw[X6 e1]
   have hb:(AV.v (.one (.ptr r 0 0))).refs=[r]:=by simp[AV.refs,AV.leaves,TV.leaves,A0.refs]
   have hbel:σ.below r=r::ls.flatMap A0.refs:=by unfold St.below;rw[e2];rfl
   simp only[hb,zV,List.flatMap_nil,zH1,hbel,List.map_cons,List.map_nil]
   have hl:=A51 e3
   refine⟨fun r' hr=>?_,fun r' hr=>?_,fun hd=>?_⟩
   ·rcases zY.mp hr with hr|hr
    ·rcases List.mem_cons.mp hr with rfl|hr
     ·exact⟨_,e2,by simp⟩
     ·exact hl r' hr
    ·exact k1 r' hr
   ·rcases zY.mp hr with hr|hr
    ·rw[zF1]at hr;subst hr;simp
    ·exact zA1 _ (k2 r' hr)
   ·exact distinct_mono (l1:=r::ls.flatMap A0.refs) (m1:=[r]) hd (fun r' h=>by rw[zF1]at h;subst h;simp) k2 (fun _=>rfl) k3
where
 distinct_app {l1 l2:List Nat} (h:distinct (l1++l2)=true):distinct l1=true∧distinct l2=true∧∀x∈l1,x∉l2:=by
  induction l1 with
  |nil=>exact⟨rfl,h,by simp⟩
  |cons a t ih=>
   simp only[List.cons_append,distinct]at h
   cases hm:E6 a (t++l2)<;>simp only[hm,zB,zA]at h
   ·obtain⟨i1,i2,i3⟩:=ih h
    have hn:a∉t++l2:=fun hc=>by rw[D6.mpr hc]at hm;cases hm
    rw[zY,not_or]at hn
    refine⟨?_,i2,fun x hx=>?_⟩
    ·simp only[distinct]
     have:E6 a t=false:=by
      cases hb:E6 a t
      ·rfl
      ·exact absurd (D6.mp hb) hn.1
     rw[this];exact i1
    ·rcases List.mem_cons.mp hx with rfl|hx
     ·exact hn.2
     ·exact i3 x hx
   ·cases h
 app_distinct {l1 l2:List Nat} (h1:distinct l1=true) (h2:distinct l2=true) (h3:∀x∈l1,x∉l2):distinct (l1++l2)=true:=by
  induction l1 with
  |nil=>exact h2
  |cons a t ih=>
   simp only[distinct]at h1
   cases hm:E6 a t<;>simp only[hm,zB,zA]at h1
   ·simp only[List.cons_append,distinct]
    have:E6 a (t++l2)=false:=by
     cases hb:E6 a (t++l2)
     ·rfl
     ·rcases zY.mp (D6.mp hb)with hc|hc
      ·rw[D6.mpr hc]at hm;cases hm
      ·exact absurd hc (h3 a (zM ..))
    rw[this]
    exact ih h1 fun x hx=>h3 x (zF _ hx)
   ·cases h1
 distinct_mono {l1 l2 m1 m2:List Nat} (hd:distinct (l1++l2)=true) (h1:∀r∈m1,r∈l1) (h2:∀r∈m2,r∈l2) (g1:distinct l1=true→distinct m1=true) (g2:distinct l2=true→distinct m2=true):distinct (m1++m2)=true:=by
  obtain⟨d1,d2,d3⟩:=distinct_app hd
  exact app_distinct (g1 d1) (g2 d2) fun x hx hx2=>d3 x (h1 x hx) (h2 x hx2)
theorem A4d {α:Type}{idx:List (Nat×α)}{r:Nat}(h:r∉idx.map (·.1)):look r idx=none:=by
 induction idx with
 |nil=>rfl
 |cons p t ih=>
  obtain⟨r',k⟩:=p
  simp only[List.map_cons,List.mem_cons,not_or]at h
  simp only[look,A1o h.1,zA]
  exact ih h.2
theorem A95 {α:Type}{idx:List (Nat×α)}{r:Nat}{k:α}(h:look r idx=some k):r∈idx.map (·.1):=by
 cases hm:E6 r (idx.map (·.1))
 ·rw[A4d fun hc=>by rw[D6.mpr hc]at hm;cases hm]at h;cases h
 ·exact D6.mp hm
theorem L8 {xs ys:List Nat}(h:S5 xs ys=true):∀x∈xs,x∉ys:=by
 intro x hx hy
 have:=List.all_eq_true.mp h x hx
 rw[D6.mpr hy]at this
 cases this
theorem A0g:∀{rs:List Nat} {σ σ':St},σ.freeze rs=some σ'→∀r,r∉rs→∀f ls,σ.look r=some (.box f ls)→∃ls',σ'.look r=some (.box f ls')
 |[],σ,σ',h,r,_,f,ls,hr=>by simp only[St.freeze,zO]at h;subst h;exact⟨ls,hr⟩
 |s::rs,σ,σ',h,r,hn,f,ls,hr=>by
  simp only[List.mem_cons,not_or]at hn
  simp only[St.freeze]at h
  split at h
  ·rename_i g xs _
   refine A0g h r hn.2 f (ls.map (G7 s g xs)) ?_
   rw[A9,if_neg (by simpa using hn.1),St.look_map,hr];rfl
  ·exact A0g h r hn.2 f ls hr
  ·cases h
theorem A0h:∀{rs:List Nat} {σ σ':St},σ.freeze rs=some σ'→∀r,r∉rs→∀f xs i c n,σ.look r=some (.hol f xs i c n)→σ'.look r=some (.hol f xs i c n)
 |[],σ,σ',h,r,_,f,xs,i,c,n,hr=>by simp only[St.freeze,zO]at h;subst h;exact hr
 |s::rs,σ,σ',h,r,hn,f,xs,i,c,n,hr=>by
  simp only[List.mem_cons,not_or]at hn
  simp only[St.freeze]at h
  split at h
  ·rename_i g ys _
   refine A0h h r hn.2 f xs i c n ?_
   rw[A9,if_neg (by simpa using hn.1),St.look_map,hr];rfl
  ·exact A0h h r hn.2 f xs i c n hr
  ·cases h
theorem A90 {ms:List Md}:∀{xs:List Operand} {i:Nat} {r e c:Nat},(r,some (e,c))∈D8 σ ms i xs→∃k,(r,(some (e,c),k))∈E9 σ ms i xs
 |[],i,r,e,c,h=>by simp[D8]at h
 |x::xs,i,r,e,c,h=>by
  simp only[D8,zY]at h
  simp only[E9,zY]
  rcases h with h|h
  ·cases hm:B0 ms i<;>cases hx:σ.ev x<;>rw[hm,hx]at h<;>simp only[List.not_mem_nil]at h
   ·rename_i a
    have:∀(ls:List A0) (j:Nat),(r,some (e,c))∈ls.flatMap L3→∃k,(r,(some (e,c),k))∈W4 (some i) j ls:=by
     intro ls
     induction ls with
     |nil=>intro j h;simp at h
     |cons l ls ih=>
      intro j h
      simp only[zV,zY]at h
      simp only[W4,zY]
      rcases h with h|h
      ·cases l<;>simp[L3]at h
       obtain⟨rfl,rfl,rfl⟩:=h
       exact⟨_,.inl (zM ..)⟩
      ·obtain⟨k,hk⟩:=ih (j+1) h
       exact⟨k,.inr hk⟩
    obtain⟨k,hk⟩:=this _ 0 h
    exact⟨k,.inl hk⟩
   ·simp at h
  ·obtain⟨k,hk⟩:=A90 h
   exact⟨k,.inr hk⟩
theorem A5u {deep:Bool}{ms:List Md}:∀{xs:List Operand} {i:Nat} {as:List TV},F9 deep σ ms i xs=some as→∀{r e c k:Nat},(r,(some (e,c),k))∈E9 σ ms i xs→deep=true
 |[],i,as,h,r,e,c,k,hk=>by simp[E9]at hk
 |x::xs,i,as,h,r,e,c,k,hk=>by
  simp only[F9]at h
  obtain⟨z,hz,h⟩:=oB h
  obtain⟨zs,hzs,h⟩:=oB h
  simp only[E9,zY]at hk
  have hls:∀(f:A0→Option A0) (ls:List A0) (ms:List A0) (j:Nat),ls.mapM f=some ms→(∀r i c m,f (.pa r i c)=some m→deep=true)→(r,(some (e,c),k))∈W4 (some i) j ls→deep=true:=by
   intro f ls
   induction ls with
   |nil=>intro ms j _ _ h;simp[W4]at h
   |cons l ls ih=>
    intro ms j hm hf h
    rw[List.mapM_cons]at hm
    obtain⟨m,h1,hm⟩:=oB hm
    obtain⟨ms',h2,hm⟩:=oB hm
    simp only[W4,zY]at h
    rcases h with h|h
    ·cases l<;>simp at h
     exact hf _ _ _ _ h1
    ·exact ih ms' (j+1) h2 hf h
  have hod:∀r i c m,G4 deep σ (.pa r i c)=some m→deep=true:=by intro r i c m h;cases h
  have hio:∀r i c m,N2 deep σ (.pa r i c)=some m→deep=true:=by
   intro r i c m h
   cases hd:deep
   ·rw[hd]at h;cases h
   ·rfl
  rcases hk with hk|hk
  ·cases hm:B0 ms i with
   |ro=>cases hx:σ.ev x<;>rw[hm,hx]at hk<;>simp at hk
   |give=>
    rw[hm]at hz hk
    simp only[U4]at hz
    obtain⟨y,hy,hz⟩:=oB hz
    rw[M0 hy]at hk
    cases y with
    |one l=>
     obtain⟨m,h1,_⟩:=oM hz
     exact hls _ [l] [m] 0 (by simp[h1]) hod hk
    |agg ls=>
     obtain⟨m,h1,_⟩:=oM hz
     exact hls _ ls m 0 h1 hod hk
   |io=>
    rw[hm]at hz hk
    simp only[U4]at hz
    obtain⟨y,hy,hz⟩:=oB hz
    rw[M0 hy]at hk
    cases y with
    |one l=>
     obtain⟨m,h1,_⟩:=oM hz
     exact hls _ [l] [m] 0 (by simp[h1]) hio hk
    |agg ls=>
     obtain⟨m,h1,_⟩:=oM hz
     exact hls _ ls m 0 h1 hio hk
   |bx f=>
    rw[hm]at hz hk
    obtain⟨r',ls,e1,e2,ms',e3,_⟩:=A8o hz
    rw[X6 e1]at hk
    simp only[e2,List.mem_cons]at hk
    rcases hk with hk|hk
    ·simp at hk
    ·exact hls _ ls ms' 0 e3 hod hk
  ·exact A5u hzs hk
theorem B0r {τ:St}{ro:List Nat}{PS:Nat→Nat→Prop}{ios:List (Nat×Option (Nat×Nat))}{pv:List Value}(h:A7 (U3 X σ w.heap G PS) ios pv)(hn:∀r∈ios.map (·.1),r∉ro)(hd:∀r,r∉ro→∀f xs,σ.look r=some (.data f xs)→τ.look r=some (.data f xs))
  (hb:∀r,r∉ro→∀f ls,σ.look r=some (.box f ls)→∃ls',τ.look r=some (.box f ls')):A7 (U3 X τ w.heap G PS) ios pv:=by
 refine h.monoMem fun r hr v hv=>hv.same (fun f xs=>hd r.1 (hn _ ?_) f xs) (fun f ls=>hb r.1 (hn _ ?_) f ls)
 ·exact List.mem_map.mpr ⟨r,hr,rfl⟩
 ·exact List.mem_map.mpr ⟨r,hr,rfl⟩
theorem A8r {C:CF}(hC:A2m P E C)(hs:Sim X σ a w G){R:Type}{dst:Option Nat}{g:Nat}{xs:List Operand}{more:List TV}{us:List Value}{κ:St→Option R}{r:R}
  (hmore:∀(S:Nat→Prop) (ow:Nat→Option Nat) (md:List Md) (i:Nat),md.length≤i→(∀q,Imm X σ w.heap G q→S q)→H5 S ow w.heap md i more us)
  (h:A2y E C X.deep dst g xs more σ κ=some r):(∀(args:Array Value) (w:World),(callFunc g args).run P w= .ok (.enter g args) w)∧Calls P g (xs.map a.eval++us).toArray w fun
   | .returned v,w'=>∃σ' G',Sim X σ' (a.put dst v) w' G'∧κ σ'=some r
   |_,_=>False:=by
 unfold A2y at h
 split at h
 ·rename_i as has
  generalize hms:(E.sig g).modes=ms at h has
  generalize hro:L4 σ ms 0 xs=ro at h
  generalize hown:C2 σ ms 0 xs=own at h
  generalize hio:D8 σ ms 0 xs=ios at h
  cases hc:distinct own&&S5 ro own&&Nat.ble ms.length xs.length<;>simp only[hc,zB,zA]at h
  ·cases h
  simp only[zJ]at hc
  obtain⟨⟨hdist,hap⟩,hml⟩:=hc
  have hml:=Nat.ble_true hml
  have hasl:as.length=xs.length:=by
   have:∀{xs:List Operand} {i:Nat} {as:List TV},F9 X.deep σ ms i xs=some as→as.length=xs.length:=by
    intro xs
    induction xs with
    |nil=>intro i as h;simp only[F9,zO]at h;subst h;rfl
    |cons x xs ih=>
     intro i as h
     simp only[F9]at h
     obtain⟨z,hz,h⟩:=oB h
     obtain⟨zs,hzs,h⟩:=oB h
     obtain rfl:=oI h
     simp[ih hzs]
   exact this has
  have hap:=L8 hap
  obtain⟨out,⟨hent,hok⟩,hκ⟩:=hC _ _ _ _ _ h
  refine⟨hent,?_⟩
  split at hκ
  ·rename_i τ hτ
   obtain⟨hlive,hiosub,hiod⟩:=A3l has
   rw[hown]at hlive hiosub hiod
   rw[hio]at hiosub hiod
   have hfst:(E9 σ ms 0 xs).map (·.1)=own:=by rw[A2e ms _ _ _ has,hown]
   classical
   let PS:Nat→Nat→Prop:=fun r=>if h:∃S' i c k v,(r,(some (i,c),k))∈E9 σ ms 0 xs∧A5 X σ w.heap G (.pa r i c) v∧U9 X σ w.heap G r i c S' v then Classical.choose h else fun _=>False
   have hdi:distinct ((E9 σ ms 0 xs).map (·.1))=true:=by rw[hfst];exact hdist
   have hPS:X.deep=true→∀r i c k v,(r,(some (i,c),k))∈E9 σ ms 0 xs→A5 X σ w.heap G (.pa r i c) v→U9 X σ w.heap G r i c (PS r) v:=by
    intro hd r i c k v hm hl
    obtain⟨S',hS'⟩:=hs.part hd hl
    have hex:∃S' i c k v,(r,(some (i,c),k))∈E9 σ ms 0 xs∧A5 X σ w.heap G (.pa r i c) v∧U9 X σ w.heap G r i c S' v:=⟨S',i,c,k,v,hm,hl,hS'⟩
    have e:PS r=Classical.choose hex:=dif_pos hex
    obtain⟨i',c',k',v',h1,h2,h3⟩:=Classical.choose_spec hex
    have hu:=(H6 hdi hm).symm.trans (H6 hdi h1)
    simp only[zO,zR]at hu
    obtain⟨⟨rfl,rfl⟩,rfl⟩:=hu
    rw[e]
    intro f ys hr p hp
    have h4:=h3 f ys hr p hp
    have hvv:v'=v:=by
     obtain⟨_,_,b,n,cap,arr,ty,fr,e1,e2,e3⟩:=h2.2 f ys (St.dat_of hr)
     obtain⟨_,_,b',n',cap',arr',ty',fr',e1',e2',e3'⟩:=hl.2 f ys (St.dat_of hr)
     rw[e1]at e1';simp at e1';obtain⟨rfl,_⟩:=e1'
     rw[e2]at e2';simp at e2';obtain⟨rfl,_⟩:=e2'
     rw[e3]at e3';exact oI e3'
    rw[hvv]at h4
    exact h4
   let ow0:Nat→Option Nat:=fun q=>(G.rt q).bind fun r=>(look r (E9 σ ms 0 xs)).bind fun p=>match p.1 with
    |none=>some p.2
    |some _=>if PS r q then some p.2 else none
   let S:Nat→Prop:=fun q=>Imm X σ w.heap G q∨∃r∈ro,σ.live r∧G.rt q=some r
   have how:∀q,ow0 q≠none→∃r∈own,G.rt q=some r:=by
    intro q hq
    obtain⟨k,hk⟩:=Option.ne_none_iff_exists'.mp hq
    obtain⟨r,h1,h2⟩:=oB hk
    obtain⟨p,h3,_⟩:=oB h2
    refine⟨r,?_,h1⟩
    rw[←hfst]
    exact A95 h3
   have hps:∀r i c q,(r,some (i,c))∈ios→G.rt q=some r→ow0 q≠none→PS r q:=by
    intro r i c q hm hq h0
    obtain⟨k,hk⟩:=A90 (hio▸hm)
    have e:ow0 q=if PS r q then some k else none:=by
     show(G.rt q).bind _=_
     rw[hq,zC,H6 hdi hk];rfl
    rw[e]at h0
    by_cases hp:PS r q
    ·exact hp
    ·rw[if_neg hp]at h0;exact absurd rfl h0
   have hS:∀q,S q→q<w.heap.size∧ow0 q=none:=by
    intro q hq
    have hnone:∀r∈own,G.rt q≠some r:=by
     intro r hr e
     rcases hq with hq|⟨r',hr',hl,e'⟩
     ·exact hq.2.2 r e (hlive r hr)
     ·rw[e]at e';obtain rfl:=oI e'
      exact hap r hr' hr
    refine⟨?_,?_⟩
    ·rcases hq with hq|⟨r',hr',hl,e'⟩
     ·exact hq.1
     ·exact hs.lt q r' e'
    ·cases h0:ow0 q with
     |none=>rfl
     |some k=>
      obtain⟨r,h1,h2⟩:=how q (by rw[h0];simp)
      exact absurd h2 (hnone r h1)
   have hlt:∀q j,ow0 q=some j→q<w.heap.size:=by
    intro q j h0
    obtain⟨r,h1,h2⟩:=how q (by rw[h0];simp)
    exact hs.lt q r h2
   have hargs:H5 S ow0 w.heap ms 0 (as++more) (xs.map a.eval++us):=by
    refine H5.append (A5e (ms:=ms) hs (fun q hq=> .inl hq) has (fun r k hk q hq=>?_) (fun r i c k hk v hl f ys p hr hp hd=>?_) (fun r hr hl q hq=> .inr ⟨r,by rw[←hro];exact hr,hl,hq⟩)) (hmore _ _ _ _ (by rw[hasl];omega) fun q hq=> .inl hq)
    ·show(G.rt q).bind _=some k
     rw[hq,zC,H6 hdi hk];rfl
    ·obtain⟨_,_,_,h4,b,cap,arr,e,fr,ow,_,_,_,_,_,_,_,_,h5,_⟩:=hPS hd r i c k v hk hl f ys hr p hp
     refine h5.mono fun q hq=>?_
     show(G.rt q).bind _=some k
     rw[h4 q hq,zC,H6 hdi hk]
     exact if_pos hq
   have hpv:C8 ms 0 (as++more) (xs.map a.eval++us)=C8 ms 0 as (xs.map a.eval):=A09 (by simp[hasl]) (by omega)
   have hiov:=A38 (a:=a) (PS:=PS) hs has fun r i c k hk v hl=>by
    cases hd:X.deep with
    |true=>exact hPS hd r i c k v hk hl
    |false=>exact absurd (A5u has hk) (by rw[hd];simp)
   rw[hio]at hiov
   refine(hok w _ S ow0 hS hlt (by rw[hms];exact hargs)).mono fun e w' hpost=>?_
   cases e with
   |returned v=>
    dsimp only at hpost
    rw[hms,hpv]at hpost
    generalize hpvg:C8 ms 0 as (xs.map a.eval)=pv at hpost hiov
    unfold X7 at hτ
    obtain⟨σ1,hσ1,hτ⟩:=oB hτ
    have hfr:Sim X σ1 a w G∧(∀r∈own,σ1.live r)∧(F5 out.leaves=true→∀q,S q→Imm X σ1 w.heap G q)∧A7 (U3 X σ1 w.heap G PS) ios pv:=by
     cases hsh:F5 out.leaves<;>simp only[hsh,zB,zA]at hσ1
     ·obtain rfl:=oI hσ1
      exact⟨hs,hlive,(fun h=>by cases h),hiov⟩
     ·obtain⟨f1,f2,f3,f4,f5,f6⟩:=Sim.freeze hs hσ1
      have hb:=A0g hσ1
      refine⟨f1,fun r hr=>?_,fun _ q hq=>?_,?_⟩
      ·obtain⟨row,h1,h2⟩:=hlive r hr
       cases row with
       |dead=>exact absurd rfl h2
       |data f ys=>exact⟨_,f4 r (fun h=>hap r h hr) f ys h1,by simp⟩
       |hol f ys i c n=>exact⟨_,A0h hσ1 r (fun h=>hap r h hr) f ys i c n h1,by simp⟩
       |box f ls=>
        obtain⟨ls',h3⟩:=hb r (fun h=>hap r h hr) f ls h1
        exact⟨_,h3,by simp⟩
      ·rcases hq with hq|⟨r,hr,hl,e⟩
       ·exact f2 q hq
       ·exact f3 q r hr e hl
      ·exact B0r hiov (fun r h h'=>hap r h' (hiosub r h)) f4 hb
    obtain⟨g1,g2,g3,g4⟩:=hfr
    generalize hrb:(E.sig g).rbx=rb at hτ hpost
    split at hτ
    ·split at hτ
     ·cases g4
      obtain⟨G',hG⟩:=g1.behindPtr how g2 hpost (fun q hq=>(hS q hq).2) hτ g3
      exact⟨_,G',hG,hκ⟩
     ·cases hτ
    split at hτ
    ·obtain⟨σ2,hσ2,hτ⟩:=oB hτ
     obtain rfl:=oI hτ
     cases g4
     obtain⟨G',hG⟩:=g1.behind how g2 hpost (fun q hq=>(hS q hq).2) hσ2 g3
     exact⟨_,G',hG,hκ⟩
    ·rename_i hne
     obtain⟨G',hG⟩:=g1.finIo how g2 (PS:=PS) hps hpost (fun q hq=>(hS q hq).2) g4 (fun h=>hne h) hiosub (hiod hdist) hτ g3
     exact⟨_,G',hG,hκ⟩
   |panicked c=>exact hpost
   |outgrown=>exact hpost
  ·cases hκ
 ·cases h
theorem A5q {C:CF}(hC:A2m P E C)(hs:Sim X σ a w G){R:Type}{o:Oper}{c:Call}{κ:St→Option R}{r:R}(ho:o.op= .call c)(h:H1 E C X.deep o c σ κ=some r)
  {next:Act→World→Prop} {Q:Exit→Act→World→Prop} (hn:∀σ' a' w' G',Sim X σ' a' w' G'→κ σ'=some r→next a' w'):o.wp P a w next Q:=by
 unfold H1 at h
 split at h
 ·rename_i x hcal
  split at h
  ·rename_i g cs hx
   split at h
   ·rename_i more hmore
    obtain⟨vs,e,hv⟩:=(hs.ev1 hx (by simp)).1
    obtain⟨h1,h2⟩:=A8r hC hs (us:=vs) (fun S ow md i hi hI=>A5i hI i hi hmore hv) h
    have hrun:(execOp a.eval o).run P w= .ok (.enter g (c.args.toList.map a.eval++vs).toArray) w:=by
     simp only[execOp,ho]
     have:(c.args.map a.eval++vs.toArray)=(c.args.toList.map a.eval++vs).toArray:=by
      apply Array.ext';simp
     simp[resolve,hcal,e,Deferred.ofValue,invoke,h1,this]
    unfold Oper.wp
    rw[hrun]
    refine Calls.mono h2 fun e w' hpost=>?_
    cases e with
    |returned v=>
     obtain⟨σ',G',h3,h4⟩:=hpost
     exact hn σ' _ w' G' h3 h4
    |panicked c=>exact hpost.elim
    |outgrown=>exact hpost.elim
   ·cases h
  ·cases h
 ·cases h
theorem B1.wp {o:Oper}{next:Act→World→Prop}{Q:Exit→Act→World→Prop}(h:B1 P X o σ' a w)(hn:∀a' w' G',Sim X σ' a' w' G'→next a' w'):o.wp P a w next Q:=by
 obtain⟨v,w',G',h1,h2⟩:=h
 unfold Oper.wp
 rcases h1 with h1|⟨h1,rfl⟩
 ·rw[h1];exact hn _ _ G' h2
 ·rw[h1];exact hn _ _ G' h2
theorem A2g {o:Oper}{c:Call}(h:A39 o=some c):o.op= .call c:=by
 unfold A39 at h
 split at h
 ·obtain rfl:=oI h;rfl
 ·cases h
theorem A1t {C:CF}(hE:B4 P E)(hQ:U2 P E)(hC:A2m P E C)(hs:Sim X σ a w G){R:Type}{o:Oper}{κ:St→Option R}{r:R}(h:P9 E C X.deep o σ κ=some r)
  {next:Act→World→Prop} {Q:Exit→Act→World→Prop} (hn:∀σ' a' w' G',Sim X σ' a' w' G'→κ σ'=some r→next a' w'):o.wp P a w next Q:=by
 unfold P9 at h
 split at h
 ·rename_i c hc
  obtain⟨G',hs'⟩:=hs.preOp (E:=E) o
  exact A5q hC hs' (A2g hc) h hn
 ·obtain⟨G',hs⟩:=hs.preOp (E:=E) o
  split at h
  ·rename_i c σ' h1
   cases c<;>simp only[zB,zA]at h
   ·cases h
   ·exact(A6t hE hQ hs h1).wp fun a' w' G' hs'=>by
     obtain⟨G2,hs2⟩:=hs'.postOp o σ
     exact hn _ a' w' G2 hs2 h
  ·cases h
end
end Go.Proofs.Ytalmhjlcjcnidaa.Ev

/- Calls whose arguments come back changed: the caller behind the call. -/
import Derived.Test.YtalmhjlcjcnidaaEvCall3
set_option linter.all false
namespace Go.Proofs.Ytalmhjlcjcnidaa.Ev
open Go
section
variable {P:Program} {E:Env} {X:Ctx} {σ σ':St} {a:Act} {w w':World} {G:Gh}
def K4 (ys:List TV)(i:Nat):Nat:=((ys.take i).flatMap TV.leaves).length
theorem K8 (ys:List TV):K4 ys 0=0:=by simp[K4]
theorem K7 (y:TV)(ys:List TV)(i:Nat):K4 (y::ys) (i+1)=y.leaves.length+K4 ys i:=by simp[K4]
theorem A7k:∀{ys:List TV} {i:Nat} {y:TV} {m:Nat} {l:A0},ys[i]?=some y→y.leaves[m]?=some l→(ys.flatMap TV.leaves)[K4 ys i+m]?=some l
 |[],i,y,m,l,h,_=>by simp at h
 |y0::ys,0,y,m,l,h,hl=>by
  simp at h;subst h
  rw[K8,zS,zV,List.getElem?_append_left (List.getElem?_eq_some_iff.mp hl).1];exact hl
 |y0::ys,i+1,y,m,l,h,hl=>by
  rw[K7,zV,List.getElem?_append_right (by omega),show y0.leaves.length+K4 ys i+m - y0.leaves.length=K4 ys i+m by omega]
  exact A7k (by simpa using h) hl
theorem A52:∀{ys:List TV} {i:Nat} {y:TV},ys[i]?=some y→K4 ys i+y.leaves.length≤(ys.flatMap TV.leaves).length
 |[],i,y,h=>by simp at h
 |y0::ys,0,y,h=>by simp at h;subst h;rw[K8,zV,List.length_append];omega
 |y0::ys,i+1,y,h=>by
  have:=A52 (ys:=ys) (i:=i) (y:=y) (by simpa using h)
  rw[K7,zV,List.length_append];omega
theorem F0.of {R:Nat→A0→Value→Prop}:∀{ls:List A0} {us:List Value} {j:Nat},ls.length=us.length→(∀m l v,ls[m]?=some l→us[m]?=some v→R (j+m) l v)→F0 R j ls us
 |[],[],j,_,_=> .nil
 |[],_::_,_,h,_=>by simp at h
 |_::_,[],_,h,_=>by simp at h
 |l::ls,u::us,j,h,hR=> .cons (hR 0 l u rfl rfl) (F0.of (by simpa using h) fun m l' v h1 h2=>by
   have:=hR (m+1) l' v (by simpa using h1) (by simpa using h2)
   rwa[show j+1+m=j+(m+1)by omega])
theorem A8j:∀{ys:List TV} {us vs:List Value},E5 ys us vs→∀{i:Nat} {y:TV},ys[i]?=some y→
  ∃v u,vs[i]?=some v∧F2 y u v∧u.length=y.leaves.length∧∀m x,u[m]?=some x→us[K4 ys i+m]?=some x
 |[],us,vs,_,i,y,h=>by simp at h
 |y0::ys,us,vs,hs,i,y,h=>by
  obtain⟨u1,u2,v,vs',rfl,rfl,h1,h2⟩:=hs
  cases i with
  |zero=>
   simp at h;subst h
   refine⟨v,u1,rfl,h1,h1.len,fun m x hx=>?_⟩
   rw[K8,zS,List.getElem?_append_left (List.getElem?_eq_some_iff.mp hx).1];exact hx
  |succ i=>
   obtain⟨v',u,k1,k2,k3,k4⟩:=A8j h2 (i:=i) (y:=y) (by simpa using h)
   refine⟨v',u,by simpa using k1,k2,k3,fun m x hx=>?_⟩
   rw[K7,List.getElem?_append_right (by rw[h1.len];omega),h1.len,show y0.leaves.length+K4 ys i+m - y0.leaves.length=K4 ys i+m by omega]
   exact k4 m x hx
theorem E5.split:∀{ys1 ys2:List TV} {us vs1 vs2:List Value},ys1.length=vs1.length→E5 (ys1++ys2) us (vs1++vs2)→∃u1 u2,us=u1++u2∧E5 ys1 u1 vs1∧E5 ys2 u2 vs2
 |[],ys2,us,[],vs2,_,h=>⟨[],us,rfl,⟨rfl,rfl⟩,h⟩
 |[],_,_,_::_,_,h,_=>by simp at h
 |_::_,_,_,[],_,h,_=>by simp at h
 |y::ys1,ys2,us,v::vs1,vs2,hl,h=>by
  obtain⟨u1,u2,v',vs',rfl,e,h1,h2⟩:=h
  obtain⟨rfl,rfl⟩:v=v'∧vs1++vs2=vs':=by simpa using e
  obtain⟨w1,w2,rfl,h3,h4⟩:=E5.split (by simpa using hl) h2
  exact⟨u1++w1,w2,by simp,⟨u1,w1,v,vs1,rfl,rfl,h1,h3⟩,h4⟩
theorem E5.lens:∀{ys:List TV} {us vs:List Value},E5 ys us vs→ys.length=vs.length∧us.length=(ys.flatMap TV.leaves).length
 |[],us,vs,h=>by obtain⟨rfl,rfl⟩:=h;exact⟨rfl,rfl⟩
 |y::ys,us,vs,h=>by
  obtain⟨u1,u2,v,vs',rfl,rfl,h1,h2⟩:=h
  obtain⟨k1,k2⟩:=E5.lens h2
  exact⟨by simp[k1],by simp[k2,h1.len]⟩
theorem A0w.get {h:Array Obj}{ow:Nat→Option Nat}:∀{pv cs:List Value} {n:Nat},A0w h ow n pv cs→cs.length=pv.length∧∀{i:Nat} {v:Value},pv[i]?=some v→∃c,cs[i]?=some c∧((∃a n m,v= .slice a n m)∧c=v∨
   ∃(b:Nat) (arr:Array Value) (e:TypeId) (fr:Nat×Nat),v= .pointer (some ⟨b,0,none⟩)∧h[b]?=some (.cells arr e fr)∧NF fr arr.size∧c= .agg arr∧ow b=some (n+i))
 |[],cs,n,hp=>by simp only[A0w]at hp;subst hp;simp
 |v0::pv,cs,n,hp=>by
  obtain⟨c,cs',rfl,h1,h2⟩:=hp
  obtain⟨k1,k2⟩:=A0w.get h1
  refine⟨by simp[k1],fun{i v} hv=>?_⟩
  cases i with
  |zero=>simp at hv;subst hv;exact⟨c,rfl,h2⟩
  |succ i=>
   obtain⟨c',h3,h4⟩:=k2 (i:=i) (by simpa using hv)
   exact⟨c',by simpa using h3,by rwa[show n+1+i=n+(i+1)by omega]at h4⟩
def N1 (L:Nat):Nat→Nat→List Nat→List TV→Nat→Option Nat
 |j,i,r::rs,.one _::ys,k=>if k=j then some r else N1 L (j+1) (i+1) rs ys k
 |j,i,r::rs,.agg ls::ys,k=>if k=L+i then some r else N1 L (j+ls.length) (i+1) rs ys k
 |_,_,_,_,_=>none
theorem A18 {L:Nat}:∀{ios:List Nat} {ys:List TV} {j i k:Nat},k<j→k<L→N1 L j i ios ys k=none
 |[],_,_,_,_,_,_=>by simp[N1]
 |_::_,[],_,_,_,_,_=>by simp[N1]
 |r::rs,.one l::ys,j,i,k,h1,h2=>by simp only[N1];rw[if_neg (by omega)];exact A18 (by omega) h2
 |r::rs,.agg ls::ys,j,i,k,h1,h2=>by simp only[N1];rw[if_neg (by omega)];exact A18 (by omega) h2
theorem A5w {L:Nat}:∀{ios:List Nat} {ys:List TV} {j i k r:Nat},N1 L j i ios ys k=some r→r∈ios
 |[],_,_,_,_,_,h=>by simp[N1]at h
 |_::_,[],_,_,_,_,h=>by simp[N1]at h
 |r0::rs,.one l::ys,j,i,k,r,h=>by
  simp only[N1]at h
  split at h
  ·obtain rfl:=oI h;exact zM ..
  ·exact zF _ (A5w h)
 |r0::rs,.agg ls::ys,j,i,k,r,h=>by
  simp only[N1]at h
  split at h
  ·obtain rfl:=oI h;exact zM ..
  ·exact zF _ (A5w h)
theorem A19 {L:Nat}:∀{ios:List Nat} {ys:List TV} {j i n r:Nat} {l:A0},j+(ys.flatMap TV.leaves).length≤L→ios[n]?=some r→ys[n]?=some (.one l)→N1 L j i ios ys (j+K4 ys n)=some r
 |[],_,_,_,_,_,_,_,h,_=>by simp at h
 |_::_,[],_,_,_,_,_,_,_,h=>by simp at h
 |r0::rs,y::ys,j,i,0,r,l,hL,h1,h2=>by
  simp at h1 h2;subst h1 h2
  simp only[N1,K8,Nat.add_zero,if_true]
 |r0::rs,y::ys,j,i,n+1,r,l,hL,h1,h2=>by
  have hlt:=A52 (ys:=ys) (i:=n) (y:= .one l) (by simpa using h2)
  simp only[zV,List.length_append]at hL
  cases y with
  |one l0=>
   simp only[TV.leaves,zW,zX]at hL hlt
   have ih:=A19 (L:=L) (ios:=rs) (ys:=ys) (j:=j+1) (i:=i+1) (n:=n) (by omega) (by simpa using h1) (by simpa using h2)
   generalize hk:j+K4 _ (n+1)=k
   rw[K7]at hk
   simp only[TV.leaves,zW,zX]at hk
   simp only[N1]
   rw[if_neg (by omega),←ih];congr 1;omega
  |agg ls=>
   simp only[TV.leaves,zW,zX]at hL hlt
   have ih:=A19 (L:=L) (ios:=rs) (ys:=ys) (j:=j+ls.length) (i:=i+1) (n:=n) (by omega) (by simpa using h1) (by simpa using h2)
   generalize hk:j+K4 _ (n+1)=k
   rw[K7]at hk
   simp only[TV.leaves]at hk
   simp only[N1]
   rw[if_neg (by omega),←ih];congr 1;omega
theorem A17 {L:Nat}:∀{ios:List Nat} {ys:List TV} {j i n r:Nat} {ls:List A0},j+(ys.flatMap TV.leaves).length≤L→ios[n]?=some r→ys[n]?=some (.agg ls)→
  N1 L j i ios ys (L+i+n)=some r∧∀m,m<ls.length→N1 L j i ios ys (j+K4 ys n+m)=none
 |[],_,_,_,_,_,_,_,h,_=>by simp at h
 |_::_,[],_,_,_,_,_,_,_,h=>by simp at h
 |r0::rs,y::ys,j,i,0,r,l,hL,h1,h2=>by
  simp at h1 h2;subst h1 h2
  simp only[zV,List.length_append,TV.leaves]at hL
  refine⟨by simp[N1],fun m hm=>?_⟩
  simp only[N1,K8,Nat.add_zero]
  rw[if_neg (by omega)]
  exact A18 (by omega) (by omega)
 |r0::rs,y::ys,j,i,n+1,r,l,hL,h1,h2=>by
  have hlt:=A52 (ys:=ys) (i:=n) (y:= .agg l) (by simpa using h2)
  simp only[zV,List.length_append]at hL
  cases y with
  |one l0=>
   simp only[TV.leaves,zW,zX]at hL hlt
   obtain⟨ih1,ih2⟩:=A17 (L:=L) (ios:=rs) (ys:=ys) (j:=j+1) (i:=i+1) (n:=n) (by omega) (by simpa using h1) (by simpa using h2)
   refine⟨?_,fun m hm=>?_⟩
   ·generalize hk:L+i+(n+1)=k
    simp only[N1]
    rw[if_neg (by omega),←ih1];congr 1;omega
   ·generalize hk:j+K4 _ (n+1)+m=k
    rw[K7]at hk
    simp only[TV.leaves,zW,zX]at hk
    simp only[N1]
    rw[if_neg (by omega),←ih2 m hm];congr 1;omega
  |agg ls=>
   simp only[TV.leaves,zW,zX]at hL hlt
   obtain⟨ih1,ih2⟩:=A17 (L:=L) (ios:=rs) (ys:=ys) (j:=j+ls.length) (i:=i+1) (n:=n) (by omega) (by simpa using h1) (by simpa using h2)
   refine⟨?_,fun m hm=>?_⟩
   ·generalize hk:L+i+(n+1)=k
    simp only[N1]
    rw[if_neg (by omega),←ih1];congr 1;omega
   ·generalize hk:j+K4 _ (n+1)+m=k
    rw[K7]at hk
    simp only[TV.leaves]at hk
    simp only[N1]
    rw[if_neg (by omega),←ih2 m hm];congr 1;omega
theorem A7i {dst:Option Nat}{j:Nat}{r:Nat×Option (Nat×Nat)}{y:TV}{p:A6×List (Nat×A6)}(hp:A6v σ dst j r y=some p):(r.2=none∧∃f xs xs',σ.look r.1=some (.data f xs)∧y= .one (.od f xs')∧p=(.data f xs',[]))∨
  (r.2=none∧∃f ls ls',σ.look r.1=some (.box f ls)∧y= .agg ls'∧ls'.length=f.size∧p=(.box f (instLeaves dst j ls').1,(instLeaves dst j ls').2))∨
  (∃i c f xs g ys x,r.2=some (i,c)∧σ.look r.1=some (.data f xs)∧y= .one (.od g ys)∧M5 f (xs.getD i f.zero) c g ys=some x∧p=(.data f (xs.set i x),[])):=by
 unfold A6v at hp
 cases hic:r.2 with
 |none=>
  rw[hic]at hp
  simp only at hp
  cases hr:σ.look r.1 with
  |none=>rw[hr]at hp;cases hp
  |some row=>
   rw[hr]at hp
   cases row with
   |dead=>cases hp
   |hol=>cases y<;>cases hp
   |data f xs=>
    cases y with
    |agg ls=>cases hp
    |one l=>
     cases l<;>simp only at hp<;>try (cases hp;done)
     rename_i g xs'
     cases hd:decide (g=f)<;>simp only[hd,zB,zA]at hp
     ·cases hp
     rw[zG]at hd;subst hd
     obtain rfl:=oI hp
     exact .inl ⟨rfl,g,xs,xs',rfl,rfl,rfl⟩
   |box f ls=>
    cases y with
    |one l=>cases l<;>cases hp
    |agg ls'=>
     simp only at hp
     cases hd:Nat.beq ls'.length f.size<;>simp only[hd,zB,zA]at hp
     ·cases hp
     obtain rfl:=oI hp
     exact .inr (.inl ⟨rfl,f,ls,ls',rfl,rfl,zN hd,rfl⟩)
 |some ic=>
  obtain⟨i,c⟩:=ic
  rw[hic]at hp
  simp only at hp
  cases hr:σ.look r.1 with
  |none=>rw[hr]at hp;cases hp
  |some row=>
   rw[hr]at hp
   cases row with
   |dead=>cases hp
   |hol=>cases y<;>cases hp
   |box f ls=>cases y<;>cases hp
   |data f xs=>
    cases y with
    |agg ls=>cases hp
    |one l=>
     cases l<;>simp only at hp<;>try (cases hp;done)
     rename_i g ys
     obtain⟨x,hx,rfl⟩:=oM hp
     exact .inr (.inr ⟨i,c,f,xs,g,ys,x,rfl,rfl,rfl,hx,rfl⟩)
theorem A36 {dst:Option Nat}:∀{ios:List (Nat×Option (Nat×Nat))} {ys:List TV} {j:Nat} {ups news:List (Nat×A6)},S1 σ dst j ios ys=some (ups,news)→ios.length=ys.length∧ups.map (·.1)=ios.map (·.1)∧
  (∀{i:Nat} {r:Nat×Option (Nat×Nat)} {y:TV},ios[i]?=some r→ys[i]?=some y→∃row,(r.1,row)∈ups∧((r.2=none∧∃f xs xs',σ.look r.1=some (.data f xs)∧y= .one (.od f xs')∧row= .data f xs')∨
   (r.2=none∧∃f ls ls',σ.look r.1=some (.box f ls)∧y= .agg ls'∧ls'.length=f.size∧row= .box f (instLeaves dst (j+K4 ys i) ls').1∧∀p∈(instLeaves dst (j+K4 ys i) ls').2,p∈news)∨
   (∃e c f xs g zs x,r.2=some (e,c)∧σ.look r.1=some (.data f xs)∧y= .one (.od g zs)∧M5 f (xs.getD e f.zero) c g zs=some x∧row= .data f (xs.set e x))))∧
  (∀p∈news,∃i r ls',ios[i]?=some r∧ys[i]?=some (.agg ls')∧p∈(instLeaves dst (j+K4 ys i) ls').2)
 |[],[],j,ups,news,h=>by
  simp only[S1,zO,zR]at h
  obtain⟨rfl,rfl⟩:=h
  exact⟨rfl,rfl,fun h=>by simp at h,fun p h=>by simp at h⟩
 |[],_::_,j,ups,news,h=>by simp[S1]at h
 |_::_,[],j,ups,news,h=>by simp[S1]at h
 |r0::rs,y0::ys,j,ups,news,h=>by
  simp only[S1]at h
  obtain⟨p,hp,h⟩:=oB h
  obtain⟨q,hq,h⟩:=oB h
  obtain⟨rfl,rfl⟩:=zQ (oI h)
  obtain⟨k1,k2,k3,k4⟩:=A36 (ups:=q.1) (news:=q.2) hq
  have hj:∀i,j+y0.leaves.length+K4 ys i=j+K4 (y0::ys) (i+1):=fun i=>by rw[K7];omega
  refine⟨by simp[k1],by simp[k2],fun{i r y} h1 h2=>?_,fun x hx=>?_⟩
  ·cases i with
   |zero=>
    simp at h1 h2;subst h1 h2
    refine⟨p.1,zM ..,?_⟩
    rcases A7i hp with⟨hn,f,xs,xs',hr,e,rfl⟩|⟨hn,f,ls,ls',hr,e,e3,rfl⟩|⟨e,c,f,xs,g,zs,x,hn,hr,e1,e2,rfl⟩
    ·exact .inl ⟨hn,f,xs,xs',hr,e,rfl⟩
    ·refine .inr (.inl ⟨hn,f,ls,ls',hr,e,e3,by rw[K8];rfl,fun x hx=>?_⟩)
     rw[K8]at hx
     exact zZ _ hx
    ·exact .inr (.inr ⟨e,c,f,xs,g,zs,x,hn,hr,e1,e2,rfl⟩)
   |succ i=>
    obtain⟨row,h3,h4⟩:=k3 (i:=i) (by simpa using h1) (by simpa using h2)
    refine⟨row,zF _ h3,?_⟩
    rcases h4 with h4|⟨hn,f,ls,ls',e1,e2,e3,e4,e5⟩|h4
    ·exact .inl h4
    ·rw[hj]at e4 e5
     exact .inr (.inl ⟨hn,f,ls,ls',e1,e2,e3,e4,fun x hx=>zA1 _ (e5 x hx)⟩)
    ·exact .inr (.inr h4)
  ·rcases zY.mp hx with hx|hx
   ·rcases A7i hp with⟨hn,f,xs,xs',hr,e,rfl⟩|⟨hn,f,ls,ls',hr,e,e3,rfl⟩|⟨e,c,f,xs,g,zs,x,hn,hr,e1,e2,rfl⟩
    ·simp at hx
    ·exact⟨0,r0,ls',rfl,by rw[e];rfl,by rw[K8];exact hx⟩
    ·simp at hx
   ·obtain⟨i,r,ls',e1,e2,e3⟩:=k4 x hx
    rw[hj]at e3
    exact⟨i+1,r,ls',by simpa using e1,by simpa using e2,e3⟩
theorem H7:∀{us:List (Nat×A6)} {σ:St} {r:Nat},(r∉us.map (·.1)→(setUps σ us).look r=σ.look r)∧(distinct (us.map (·.1))=true→∀row,(r,row)∈us→(setUps σ us).look r=some row)
 |[],σ,r=>⟨fun _=>rfl,fun _ row h=>by simp at h⟩
 |(r0,row0)::us,σ,r=>by
  obtain⟨k1,k2⟩:=H7 (us:=us) (σ:=σ.setRow r0 row0) (r:=r)
  refine⟨fun h=>?_,fun hd row h=>?_⟩
  ·simp only[List.map_cons,List.mem_cons,not_or]at h
   show(setUps (σ.setRow r0 row0) us).look r=_
   rw[k1 h.2,A3,if_neg h.1]
  ·simp only[List.map_cons,distinct]at hd
   cases hm:E6 r0 (us.map (·.1))<;>simp only[hm,zB,zA]at hd
   ·show(setUps (σ.setRow r0 row0) us).look r=_
    rcases List.mem_cons.mp h with e|h
    ·obtain⟨rfl,rfl⟩:=zQ e
     rw[k1 (fun hc=>by rw[D6.mpr hc]at hm;cases hm),A3,if_pos rfl]
    ·exact k2 hd row h
   ·cases hd
theorem L5:∀(us:List (Nat×A6)) (σ:St),(setUps σ us).slots=σ.slots∧(setUps σ us).pins=σ.pins
 |[],σ=>⟨rfl,rfl⟩
 |(r,row)::us,σ=>L5 us (σ.setRow r row)
end
end Go.Proofs.Ytalmhjlcjcnidaa.Ev

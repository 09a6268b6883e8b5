/- '==' of structs of plain cells, by computing on the program's table. -/
import Derived.Test.YtalmhjlcjcnidaaEvEnv
import Derived.Laws.StructEq
set_option linter.all false
namespace Go.Proofs.Ytalmhjlcjcnidaa.Ev
open Go
def A6s (P:Program)(kd:TypeId→Kd→Bool):Nat→List Field→Kd→Bool
 |_,[],_=>false
 |o,[fl],f=>Nat.beq fl.offset o&&Nat.beq (P.cellsOf fl.type) f.size&& !(fl.name== "_")&&kd fl.type f
 |o,fl::rest,.pair a b=>Nat.beq fl.offset o&&Nat.beq (P.cellsOf fl.type) a.size&& !(fl.name== "_")&&kd fl.type a&&A6s P kd (o+a.size) rest b
 |_,_,_=>false
def A40 (P:Program):Nat→TypeId→Kd→Bool
 |0,_,_=>false
 |n+1,t,f=>(match P.info? t with|some j=>Nat.beq j.size f.size|none=>false)&&match P.underlying t with
  |some (.int k)=>decide (f= .int k)
  |some .bool=>decide (f= .bool)
  |some .string=>decide (f= .str)
  |some (.struct fs)=> !P.stoodInHeld t&&A6s P (A40 P n) 0 fs.toList f
  |_=>false
section
variable {P:Program} {E:Env}
theorem P6.len:∀{f:Kd} {vs:List Value},P6 f vs→vs.length=f.size
 | .int _,_,h=>by obtain⟨n,rfl⟩:=h;rfl
 | .bool,_,h=>by obtain⟨n,rfl⟩:=h;rfl
 | .str,_,h=>by obtain⟨n,rfl⟩:=h;rfl
 | .sl _,_,h=>h.elim
 | .pair a b,_,h=>by obtain⟨v1,v2,rfl,h1,h2⟩:=h;simp[h1.len,h2.len,Kd.size]
theorem N9:∀{u1 v1 u2 v2:List Value} {e:Bool},u1.length=v1.length→H8 (u1++u2) (v1++v2)=some e→∃e1 e2,H8 u1 v1=some e1∧H8 u2 v2=some e2∧e=(e1&&e2)
 |[],[],u2,v2,e,_,h=>⟨true,e,rfl,h,by simp⟩
 |[],_::_,_,_,_,hl,_=>by simp at hl
 |_::_,[],_,_,_,hl,_=>by simp at hl
 |u::u1,v::v1,u2,v2,e,hl,h=>by
  have hl':u1.length=v1.length:=by simpa using hl
  cases u<;>cases v<;>simp only[List.cons_append,H8]at h<;>try (cases h;done)
  ·obtain⟨q,hq,rfl⟩:=oM h
   obtain⟨e1,e2,h1,h2,rfl⟩:=N9 hl' hq
   exact⟨_,e2,by simp only[H8,h1];rfl,h2,by rw[Bool.and_assoc]⟩
  ·rename_i k a j b
   cases hd:decide (k=j)<;>simp only[hd,zB,zA]at h
   ·cases h
   ·obtain⟨q,hq,rfl⟩:=oM h
    obtain⟨e1,e2,h1,h2,rfl⟩:=N9 hl' hq
    exact⟨_,e2,by simp only[H8,hd,zB,h1];rfl,h2,by rw[Bool.and_assoc]⟩
  ·obtain⟨q,hq,rfl⟩:=oM h
   obtain⟨e1,e2,h1,h2,rfl⟩:=N9 hl' hq
   exact⟨_,e2,by simp only[H8,h1];rfl,h2,by rw[Bool.and_assoc]⟩
def mkV (P:Program)(t:TypeId)(us:List Value):Value:=match P.underlying t with
 |some (.struct _)=> .agg us.toArray
 |_=>us.getD 0 undef
theorem A2u {n:Nat}{t:TypeId}{f:Kd}{pre us post:List Value}{w:World}(hk:A40 P n t f=true)(hu:P6 f us):(part t (pre++us++post).toArray pre.length).run P w= .ok (mkV P t us) w:=by
 cases n with
 |zero=>simp[A40]at hk
 |succ n=>
  simp only[A40,zJ]at hk
  obtain⟨hsz,hk⟩:=hk
  have hinfo:∃j,P.info? t=some j∧j.size=f.size:=by
   split at hsz
   ·rename_i j hj;exact⟨j,hj,zN hsz⟩
   ·cases hsz
  obtain⟨j,hj,hjs⟩:=hinfo
  unfold part mkV
  split at hk
  ·rename_i k hun
   rw[zG]at hk;subst hk
   obtain⟨m,rfl⟩:=hu
   simp[isAgg,underlying,hun]
  ·rename_i hun
   rw[zG]at hk;subst hk
   obtain⟨m,rfl⟩:=hu
   simp[isAgg,underlying,hun]
  ·rename_i hun
   rw[zG]at hk;subst hk
   obtain⟨m,rfl⟩:=hu
   simp[isAgg,underlying,hun]
  ·rename_i fs hun
   have:(pre++us++post).toArray.extract pre.length (pre.length+f.size)=us.toArray:=by
    apply Array.ext'
    simp only[List.append_assoc,Array.toList_extract,List.extract_eq_take_drop,Nat.add_sub_cancel_left]
    rw[List.drop_left,←hu.len,List.take_left]
   have ha:(isAgg t).run P w= .ok true w:=by simp[isAgg,underlying,hun]
   simp only[Sem.run_bind,ha,Result.andThen_ok,if_true,run_sizeOf hj,hjs,Sem.run_pure,hun,this]
  ·cases hk
theorem A28 {n d:Nat}{w:World}(ih:∀{t:TypeId} {f:Kd} {us vs:List Value} {e:Bool},A40 P n t f=true→P6 f us→P6 f vs→H8 us vs=some e→(Op.equalIn d t (mkV P t us) (mkV P t vs)).run P w= .ok e w):
  ∀{fs:List Field} {o:Nat} {f:Kd} {pre pre' us vs:List Value} {e:Bool},A6s P (A40 P n) o fs f=true→P6 f us→P6 f vs→pre.length=o→pre'.length=o→H8 us vs=some e→
   (Op.eqFields d (pre++us).toArray (pre'++vs).toArray fs).run P w= .ok e w
 |[],o,f,pre,pre',us,vs,e,hk,_,_,_,_,_=>by simp[A6s]at hk
 |[fl],o,f,pre,pre',us,vs,e,hk,hu,hv,h1,h2,hs=>by
  simp only[A6s,zJ,Bool.not_eq_true']at hk
  obtain⟨⟨⟨k1,k2⟩,k3⟩,k4⟩:=hk
  have ho:=zN k1
  have hn:fl.name≠ "_" :=by simpa using k3
  have p1:=A2u (pre:=pre) (post:=[]) (w:=w) k4 hu
  have p2:=A2u (pre:=pre') (post:=[]) (w:=w) k4 hv
  rw[zH1,h1,←ho]at p1
  rw[zH1,h2,←ho]at p2
  simp only[Op.eqFields,if_pos hn,Sem.run_bind,p1,p2,ih k4 hu hv hs,Result.andThen_ok]
  cases e<;>simp
 |fl::fl'::rest,o,f,pre,pre',us,vs,e,hk,hu,hv,h1,h2,hs=>by
  cases f with
  |pair a b=>
   simp only[A6s,zJ,Bool.not_eq_true']at hk
   obtain⟨⟨⟨⟨k1,k2⟩,k3⟩,k4⟩,k5⟩:=hk
   have ho:=zN k1
   have hn:fl.name≠ "_" :=by simpa using k3
   obtain⟨u1,u2,rfl,hu1,hu2⟩:=hu
   obtain⟨v1,v2,rfl,hv1,hv2⟩:=hv
   obtain⟨e1,e2,hs1,hs2,rfl⟩:=N9 (by rw[hu1.len,hv1.len]) hs
   have p1:=A2u (pre:=pre) (post:=u2) (w:=w) k4 hu1
   have p2:=A2u (pre:=pre') (post:=v2) (w:=w) k4 hv1
   rw[List.append_assoc,h1,←ho]at p1
   rw[List.append_assoc,h2,←ho]at p2
   have hr:=A28 ih (pre:=pre++u1) (pre':=pre'++v1) k5 hu2 hv2 (by simp[h1,hu1.len]) (by simp[h2,hv1.len]) hs2
   rw[List.append_assoc,List.append_assoc]at hr
   rw[Op.eqFields]
   simp only[if_pos hn,Sem.run_bind,p1,p2,ih k4 hu1 hv1 hs1,Result.andThen_ok]
   cases e1
   ·simp
   ·simpa using hr
  |_=>simp[A6s]at hk
theorem A5p:∀{n d:Nat} {w:World} {t:TypeId} {f:Kd} {us vs:List Value} {e:Bool},n≤d→A40 P n t f=true→P6 f us→P6 f vs→H8 us vs=some e→(Op.equalIn d t (mkV P t us) (mkV P t vs)).run P w= .ok e w
 |0,d,w,t,f,us,vs,e,hd,hk,hu,hv,hs=>by simp[A40]at hk
 |n+1,0,w,t,f,us,vs,e,hd,hk,hu,hv,hs=>by omega
 |n+1,d+1,w,t,f,us,vs,e,hd,hk,hu,hv,hs=>by
  simp only[A40,zJ]at hk
  obtain⟨hsz,hk⟩:=hk
  split at hk
  ·rename_i k hun
   rw[zG]at hk;subst hk
   obtain⟨m,rfl⟩:=hu
   obtain⟨m',rfl⟩:=hv
   simp[H8]at hs;subst hs
   simp[mkV,hun,run_equalIn_int w d t _ _ _ _ hun]
  ·rename_i hun
   rw[zG]at hk;subst hk
   obtain⟨m,rfl⟩:=hu
   obtain⟨m',rfl⟩:=hv
   simp[H8]at hs;subst hs
   simp[mkV,hun,run_equalIn_bool' w d t _ _ hun]
  ·rename_i hun
   rw[zG]at hk;subst hk
   obtain⟨m,rfl⟩:=hu
   obtain⟨m',rfl⟩:=hv
   simp[H8]at hs;subst hs
   simp[mkV,hun,run_equalIn_string w d t _ _ hun]
  ·rename_i fs hun
   simp only[zJ,Bool.not_eq_true']at hk
   have hf:P.fieldsOf t=fs:=by simp[Program.fieldsOf,hun]
   have hm:∀l,mkV P t l= .agg l.toArray:=fun l=>by simp[mkV,hun]
   rw[hm,hm,run_equalIn_struct w d t _ _ (by rw[hf];exact hun) hk.1,hf]
   exact A28 (pre:=[]) (pre':=[]) (fun a b c q=>A5p (by omega) a b c q) hk.2 hu hv rfl rfl hs
  ·cases hk
def B0o (P:Program)(E:Env):Bool:=E.eqT.all fun t=>match E.ty t with
 |some i=>A40 P 20 t i.kd&& !P.eqGuardType P.depth t&&(match P.underlying t with|some (.struct _)=>true|_=>false)
 |none=>true
theorem B1i (h:B0o P E=true):U2 P E:=by
 intro t i ht hi us vs e x y w hs hu hv
 have:=List.all_eq_true.mp h t (D6.mp ht)
 simp only[hi,zJ,Bool.not_eq_true']at this
 obtain⟨⟨h1,h2⟩,h3⟩:=this
 refine⟨run_eqGuard_agg w _ t x y _ _ h2,run_eqGuard_agg w _ t x y _ _ h2,?_⟩
 have hm:∀l,mkV P t l= .agg l.toArray:=fun l=>by
  unfold mkV
  split at h3
  ·rename_i hun;simp[hun]
  ·cases h3
 have:=A5p (d:=Op.maxDepth) (w:=w) (by simp[Op.maxDepth]) h1 hu hv hs
 rw[hm,hm]at this
 exact this
end
end Go.Proofs.Ytalmhjlcjcnidaa.Ev

/- Addresses, parts of slices, loads. -/
import Derived.Test.YtalmhjlcjcnidaaEvOps2
set_option linter.all false
namespace Go.Proofs.Ytalmhjlcjcnidaa.Ev
open Go
theorem H4 (b o c:Nat):(Addr.mk b o none).add c=⟨b,o+c,none⟩:=by
 unfold Addr.add;split
 ·rename_i h;subst h;rfl
 ·rfl
theorem Nat.blt_true {m n:Nat}(h:Nat.blt m n=true):m<n:=by simpa[Nat.blt_eq]using h
theorem Nat.ble_true {m n:Nat}(h:Nat.ble m n=true):m≤n:=by simpa using h
section
variable {P:Program} {E:Env} {X:Ctx} {σ σ':St} {a:Act} {w:World} {G:Gh}
theorem U7.struct {i:Ti}{ds:TypeDesc}(h:U7 P i ds){f:Nat}{d:Nat×Nat}(hd:i.offs[f]?=some d):
  ∃fs fl j,ds= .struct fs∧fs[f]?=some fl∧fl.offset=d.1∧P.info? fl.type=some j∧j.size=d.2∧d.2≠0:=by
 cases ds<;>simp only[U7]at h
 case bool=>rw[h.2.2]at hd;simp at hd
 case int=>rw[h.2.2]at hd;simp at hd
 case string=>rw[h.2.2]at hd;simp at hd
 case slice=>obtain⟨_,_,h,_⟩:=h;rw[h.2]at hd;simp at hd
 case struct fs=>
  obtain⟨_,h1,h2⟩:=h
  rw[h1,List.getElem?_map]at hd
  obtain⟨fl,hfl,rfl⟩:=oM hd
  obtain⟨j,hj,hz⟩:=h2 fl (List.mem_of_getElem? hfl)
  have hc:P.cellsOf fl.type=j.size:=by simp[Program.cellsOf,hj]
  exact⟨fs,fl,j,rfl,by simpa using hfl,rfl,hj,hc.symm,by rw[hc];exact hz⟩
theorem A3h (hE:B4 P E)(hs:Sim X σ a w G){o:Oper}{s:TypeId}{x:Operand}{f:Nat}(ho:o.op= .fieldAddr s x f)
  (h:K9 E o s x f σ=some (true,σ')):B1 P X o σ' a w:=by
 unfold K9 at h
 split at h
 ·rename_i i l hi hx
  obtain⟨d,hd,h⟩:=oB h
  obtain⟨ds,hds,hok⟩:=(hE.ty s i hi).desc
  obtain⟨fs,fl,j,rfl,hfl,hoff,hj,hjs,hz⟩:=hok.struct hd
  have key:∀(b q:Nat),a.eval x= .pointer (some ⟨b,q,none⟩)→(execOp a.eval o).run P w= .ok (.value (.pointer (some ⟨b,q+d.1,none⟩))) w:=by
   intro b q e
   simp[execOp,ho,e,Instr.fieldAt,underlying,hds,hfl,Instr.sureAddr,fieldPlace,run_sizeOf hj,hjs,hz,H4,hoff]
  split at h
  ·rename_i r j' c
   obtain⟨h1,h2⟩:=hs.ev1 hx (by simp)
   split at h
   ·rename_i g xs hr
    obtain⟨hi1,b,n,cap,hv,e⟩:=h1.2.1 g xs (St.dat_of hr)
    refine B1.one hs h (key _ _ e) ⟨rfl,fun f' xs' hr'=>?_,fun f' ls' hr'=>?_⟩ h2
    ·obtain⟨rfl,hq⟩:=St.dat_data hr hr';obtain rfl:=eq_of_heq hq
     exact⟨hi1,b,n,cap,hv,by rw[Nat.add_assoc]⟩
    ·rw[hr]at hr';simp at hr'
   ·rename_i g ls hr
    obtain⟨b,hv,e⟩:=h1.2.2 g ls hr
    refine B1.one hs h (key _ _ e) ⟨rfl,fun f' xs' hr'=>?_,fun f' ls' hr'=>?_⟩ h2
    ·exact(St.dat_box hr hr').elim
    ·exact⟨b,hv,rfl⟩
   ·rename_i g xs i0 c0 n0 hr
    obtain⟨hi1,b,n,cap,hv,e⟩:=h1.2.1 g xs (St.dat_hol hr)
    refine B1.one hs h (key _ _ e) ⟨rfl,fun f' xs' hr'=>?_,fun f' ls' hr'=>?_⟩ h2
    ·obtain⟨rfl,hq⟩:=St.dat_holE hr hr';obtain rfl:=eq_of_heq hq
     exact⟨hi1,b,n,cap,hv,by rw[Nat.add_assoc]⟩
    ·rw[hr]at hr';simp at hr'
   ·cases h
  ·rename_i g y c
   obtain⟨⟨b,q,arr,e,fr,e1,e2,e3,e4⟩,h2⟩:=hs.ev1 hx (by simp)
   exact B1.one hs h (key _ _ e1) ⟨b,q,arr,e,fr,by rw[Nat.add_assoc],e2,e3,e4⟩ h2
  ·cases h
 ·cases h
theorem R9 {α:Type}{xs:List α}{i:Nat}{d:α}(h:i<xs.length):xs[i]?=some (xs.getD i d):=by
 simp[List.getD,h]
theorem run_indexAt {t e:TypeId}(hu:P.underlying t=some (.slice e)){f:Kd}{eb:Nat}(he:T5 P e f eb){b o len cap:Nat}{k:IntKind}{n:Int}(hn:0≤n∧n<len):
  (Instr.indexAt t (.slice (some ⟨b,o,none⟩) len cap) (.int k n)).run P w= .ok (.pointer (some ⟨b,o+n.toNat*f.size,none⟩)) w:=by
 obtain⟨j,z,hj,hsz,_⟩:=he
 simp[Instr.indexAt,asIntOf,underlying,hu,run_sizeOf hj,hsz,hn.1,hn.2,H4]
theorem A2p (hE:B4 P E)(hs:Sim X σ a w G){o:Oper}{t:TypeId}{x i:Operand}(ho:o.op= .indexAddr t x i)
  (h:G8 E o t x i σ=some (true,σ')):B1 P X o σ' a w:=by
 unfold G8 at h
 split at h
 ·rename_i k n f xs hi hx
  cases hel:E.isEl t f<;>simp only[hel,zB,zA]at h
  ·cases h
  obtain⟨hr,rfl⟩:=zQ (oI h)
  simp only[inR,zG]at hr
  obtain⟨e,eb,hu,he⟩:=hE.isEl hel
  have h1:=(hs.ev1 hi (by simp)).1
  have h2:=(hs.ev1 hx (by simp)).1
  simp only[A5]at h1 h2
  simp only[A2]at h2
  rcases h2 with⟨rfl,_⟩|⟨b,off,cap,arr,et,fr,ow,e1,e2,e3,e4,e5,e6⟩
  ·simp at hr;omega
  ·simp only[List.cons.injEq,and_true]at e1
   have hlt:n.toNat<xs.length:=by omega
   refine B1.put hs (v:= .pointer (some ⟨b,off+n.toNat*f.size,none⟩)) (by simp[execOp,ho,h1,e1,run_indexAt (w:=w) hu he hr]) (Or.inr ?_) (by simp[AV.refs_one,A0.refs])
   refine⟨b,off+n.toNat*f.size,arr,et,fr,rfl,e4,e3,?_⟩
   exact(e6 _ _ (R9 hlt)).mono fun q hq=>hq.1
 ·rename_i k n r hi hx
  split at h
  ·rename_i f xs hr0
   cases hel:E.isEl t f<;>simp only[hel,zB,zA]at h
   ·cases h
   obtain⟨hr,rfl⟩:=zQ (oI h)
   simp only[inR,zG]at hr
   obtain⟨e,eb,hu,he⟩:=hE.isEl hel
   have h1:=(hs.ev1 hi (by simp)).1
   obtain⟨h2,h3⟩:=hs.ev1 hx (by simp)
   have hv:=h2.2 f xs (St.dat_of hr0)
   simp only[A5]at h1
   have hlt:n.toNat<xs.length:=by omega
   rcases hs.row r _ hr0 with⟨rfl,_⟩|⟨b,cap,arr,et,fr,ow,d1,_⟩
   ·simp at hlt
   ·rw[d1]at hv
    have:=run_indexAt (w:=w) (b:=b) (o:=0) (cap:=cap) (k:=k) hu he hr
    refine B1.put hs (v:= .pointer (some ⟨b,0+n.toNat*f.size,none⟩)) (by simp[execOp,ho,h1,hv,this]) (Or.inr ?_) (by simpa[AV.refs_one,A0.refs]using h3)
    refine⟨rfl,fun f' xs' hr'=>?_,fun f' ls' hr'=>?_⟩
    ·obtain⟨rfl,hq⟩:=St.dat_data hr0 hr';obtain rfl:=eq_of_heq hq
     exact⟨hlt,b,_,cap,d1,by simp⟩
    ·rw[hr0]at hr';simp at hr'
  ·rename_i f xs i0 c0 n0 hr0
   cases hel:E.isEl t f<;>simp only[hel,zB,zA]at h
   ·cases h
   obtain⟨hr,rfl⟩:=zQ (oI h)
   simp only[inR,zG]at hr
   obtain⟨e,eb,hu,he⟩:=hE.isEl hel
   have h1:=(hs.ev1 hi (by simp)).1
   obtain⟨h2,h3⟩:=hs.ev1 hx (by simp)
   have hv:=h2.2 f xs (St.dat_hol hr0)
   simp only[A5]at h1
   have hlt:n.toNat<xs.length:=by omega
   obtain⟨_,_,_,_,b,cap,arr,et,fr,ow,d1,_⟩:=hs.row r _ hr0
   rw[d1]at hv
   have:=run_indexAt (w:=w) (b:=b) (o:=0) (cap:=cap) (k:=k) hu he hr
   refine B1.put hs (v:= .pointer (some ⟨b,0+n.toNat*f.size,none⟩)) (by simp[execOp,ho,h1,hv,this]) (Or.inr ?_) (by simpa[AV.refs_one,A0.refs]using h3)
   refine⟨rfl,fun f' xs' hr'=>?_,fun f' ls' hr'=>?_⟩
   ·obtain⟨rfl,hq⟩:=St.dat_holE hr0 hr';obtain rfl:=eq_of_heq hq
    exact⟨hlt,b,_,cap,d1,by simp⟩
   ·rw[hr0]at hr';simp at hr'
  ·cases h
 ·rename_i k n r off len hi hx
  split at h
  ·rename_i f xs hr0
   cases hel:E.isEl t f<;>simp only[hel,zB,zA]at h
   ·cases h
   obtain⟨hr,rfl⟩:=zQ (oI h)
   simp only[inR,zG]at hr
   obtain⟨e,eb,hu,he⟩:=hE.isEl hel
   have h1:=(hs.ev1 hi (by simp)).1
   obtain⟨h2,h3⟩:=hs.ev1 hx (by simp)
   obtain⟨hv1,hv2,_⟩:=h2.2 f xs (St.dat_of hr0)
   simp only[A5]at h1
   have hlt:n.toNat<len:=by omega
   rcases hv2 with⟨rfl,_⟩|⟨b,m,cap,c',d1,hv,_⟩
   ·omega
   ·have:=run_indexAt (w:=w) (b:=b) (o:=off*f.size) (cap:=c') (k:=k) hu he hr
    refine B1.put hs (v:= .pointer (some ⟨b,off*f.size+n.toNat*f.size,none⟩)) (by simp[execOp,ho,h1,hv,this]) (Or.inr ?_) (by simpa[AV.refs_one,A0.refs]using h3)
    refine⟨rfl,fun f' xs' hr'=>?_,fun f' ls' hr'=>?_⟩
    ·obtain⟨rfl,hq⟩:=St.dat_data hr0 hr';obtain rfl:=eq_of_heq hq
     exact⟨by omega,b,_,cap,d1,by rw[zD1,Nat.add_zero]⟩
    ·rw[hr0]at hr';simp at hr'
  ·cases h
 ·cases h
theorem run_sliceBound {k:IntKind}{l:Int}{y:Nat}{code:BoundsCode}(h:0≤l∧l≤y):(Instr.sliceBound (.int k l) y code).run P w= .ok l.toNat w:=by
 simp[Instr.sliceBound,asIntOf,h]
theorem Sim.bound (hs:Sim X σ a w G){x:Option Operand}{d:Nat}{l:Int}(h:bound σ x d=some l):
  (x=none∧l=d)∨∃y k,x=some y∧a.eval y= .int k l:=by
 unfold Ev.bound at h
 split at h
 ·exact .inl ⟨rfl,(oI h).symm⟩
 ·rename_i y
  split at h
  ·rename_i k n hy
   obtain rfl:=oI h
   exact .inr ⟨y,k,rfl,(hs.ev1 hy (by simp)).1⟩
  ·cases h
theorem Sim.bounds (hs:Sim X σ a w G){lo hi:Option Operand}{l h:Int}{n cap:Nat}{isS:Bool}(h1:Ev.bound σ lo 0=some l)(h2:Ev.bound σ hi n=some h)
  (hr:0≤l∧l≤h∧h≤n) (hn:n≤cap):(Instr.sliceBounds isS n cap (lo.map a.eval) (hi.map a.eval) none).run P w= .ok (l.toNat,h.toNat,cap) w:=by
 have hh:(match hi.map a.eval with
   |some v=>Instr.sliceBound v cap (if isS then .sliceAcap else .sliceAlen)
   |none=>pure n).run P w= .ok h.toNat w:=by
  rcases hs.bound h2 with⟨rfl,rfl⟩|⟨y,k,rfl,e⟩
  ·simp
  ·simp only[Option.map_some,e];exact run_sliceBound ⟨by omega,by omega⟩
 have hl:(match lo.map a.eval with
   |some v=>Instr.sliceBound v h.toNat .sliceB
   |none=>pure 0).run P w= .ok l.toNat w:=by
  rcases hs.bound h1 with⟨rfl,rfl⟩|⟨y,k,rfl,e⟩
  ·simp
  ·simp only[Option.map_some,e];exact run_sliceBound ⟨by omega,by omega⟩
 unfold Instr.sliceBounds
 cases hi':hi.map a.eval<;>cases lo':lo.map a.eval<;>rw[hi']at hh<;>rw[lo']at hl<;>simp_all
theorem F3 {t e:TypeId}(hu:P.underlying t=some (.slice e)){f:Kd}{eb:Nat}(he:T5 P e f eb){p:Option Addr}{n cap:Nat}{lo hi:Option Value}{l h:Nat}
  (hb:(Instr.sliceBounds true n cap lo hi none).run P w= .ok (l,h,cap) w):
  (Instr.sliceAt t (.slice p n cap) lo hi none).run P w= .ok (.slice (if cap=l then p else p.map (·.add (l*f.size))) (h - l) (cap - l)) w:=by
 obtain⟨j,z,hj,hsz,_⟩:=he
 simp[Instr.sliceAt,Instr.slice,underlying,hu,hb,run_sizeOf hj,hsz]
theorem run_slice_string {t:TypeId}(hu:P.underlying t=some .string){s:ByteArray}{lo hi:Option Value}{l h c:Nat}
  (hb:(Instr.sliceBounds false s.size s.size lo hi none).run P w= .ok (l,h,c) w):
  (Instr.sliceAt t (.string s) lo hi none).run P w= .ok (.string (s.extract l h)) w:=by
 simp[Instr.sliceAt,Instr.slice,underlying,hu,hb]
theorem A72 (hE:B4 P E)(hs:Sim X σ a w G){o:Oper}{t:TypeId}{x:Operand}{lo hi mx:Option Operand}(ho:o.op= .slice t x lo hi mx)
  (h:A04 E o t x lo hi mx σ=some (true,σ')):B1 P X o σ' a w:=by
 unfold A04 at h
 split at h
 ·rename_i s hx
  cases hst:E.isStr t<;>simp only[hst,zB,zA]at h
  ·cases h
  split at h
  ·rename_i l u hl hu
   obtain⟨hr,rfl⟩:=zQ (oI h)
   rw[zG]at hr
   have h1:=(hs.ev1 hx (by simp)).1
   simp only[A5]at h1
   have hb:=hs.bounds (P:=P) (isS:=false) (cap:=s.size) hl hu hr (Nat.le_refl _)
   exact B1.put hs (by simp[execOp,ho,h1,run_slice_string (hE.isStr hst) hb]) (Or.inr rfl) (by simp[AV.refs_one,A0.refs])
  ·cases h
 ·rename_i f xs hx
  cases hel:E.isEl t f<;>simp only[hel,zB,zA]at h
  ·cases h
  split at h
  ·rename_i l u hl hu
   obtain⟨hr,rfl⟩:=zQ (oI h)
   rw[zG]at hr
   obtain⟨e,eb,hue,he⟩:=hE.isEl hel
   have h1:=(hs.ev1 hx (by simp)).1
   simp only[A5,A2]at h1
   have hlen:((xs.take u.toNat).drop l.toNat).length=u.toNat - l.toNat:=by simp;omega
   have emp:∀(p:Option Addr) (c:Nat),u.toNat - l.toNat=0→A5 X σ w.heap G (.sh f ((xs.take u.toNat).drop l.toNat)) (.slice p (u.toNat - l.toNat) c):=by
    intro p c h0
    simp only[A5,A2]
    exact .inl ⟨List.length_eq_zero_iff.mp (by omega),p,c,by rw[h0],by simp⟩
   rcases h1 with⟨rfl,p,c,e1,_⟩|⟨b,off,cap,arr,et,fr,ow,e1,e2,e3,e4,e5,e6⟩
   ·simp only[List.cons.injEq,and_true]at e1
    have hb:=hs.bounds (P:=P) (isS:=true) (cap:=c) hl hu hr (by simp)
    have hr':u=0∧l=0:=by simp at hr;omega
    change (Instr.sliceBounds true 0 c _ _ none).run P w=_ at hb
    refine B1.put hs (v:= .slice (if c=l.toNat then p else p.map (·.add (l.toNat*f.size))) (u.toNat - l.toNat) (c - l.toNat)) (by simp only[execOp,ho,e1];simp[F3 hue he hb]) (Or.inr (emp _ _ ?_)) (by simp[AV.refs_one,A0.refs])
    rw[hr'.1,hr'.2];rfl
   ·simp only[List.cons.injEq,and_true]at e1
    have hb:=hs.bounds (P:=P) (isS:=true) (cap:=cap) hl hu hr e2
    refine B1.put hs (by simp only[execOp,ho,e1];simp[F3 hue he hb];rfl) (Or.inr ?_) (by simp[AV.refs_one,A0.refs])
    by_cases h0:u.toNat - l.toNat=0
    ·exact emp _ _ h0
    ·simp only[A5,A2]
     refine .inr ⟨b,off+l.toNat*f.size,cap - l.toNat,arr,et,fr,ow,?_,by omega,e3,e4,by simp,?_⟩
     ·rw[if_neg (by omega),hlen];simp[H4]
     ·intro i y hy
      have hi:i<u.toNat - l.toNat:=by rw[←hlen];exact(List.getElem?_eq_some_iff.mp hy).1
      rw[List.getElem?_drop,List.getElem?_take,if_pos (by omega)]at hy
      have:=e6 _ _ hy
      rw[zD1,←Nat.add_assoc]at this
      exact this.mono fun q hq=>⟨hq.1,by simp⟩
  ·cases h
 ·rename_i r hx
  split at h
  ·rename_i f xs hr0
   cases hel:E.isEl t f<;>simp only[hel,zB,zA]at h
   ·cases h
   split at h
   ·rename_i l u hl hu
    obtain⟨hr,rfl⟩:=zQ (oI h)
    rw[zG]at hr
    obtain⟨e,eb,hue,he⟩:=hE.isEl hel
    obtain⟨h1,h1r⟩:=hs.ev1 hx (by simp)
    have hv:=h1.2 f xs (St.dat_of hr0)
    have same:∀(f':Kd) (xs':List f'.T),σ.dat r f' xs'→∃e:f=f',xs'=L7 e xs:=by
     intro f' xs' h';obtain⟨rfl,hq⟩:=St.dat_data hr0 h';exact⟨rfl,(eq_of_heq hq).symm⟩
    rcases hs.row r _ hr0 with⟨rfl,d1⟩|⟨b,cap,arr,et,fr,ow,d1,d2,_⟩
    ·rw[d1]at hv
     have hb:=hs.bounds (P:=P) (isS:=true) (cap:=0) hl hu hr (by simp)
     have hr':u=0∧l=0:=by simp at hr;omega
     change (Instr.sliceBounds true 0 0 _ _ none).run P w=_ at hb
     change a.eval x= .slice none 0 0 at hv
     refine B1.put hs (by simp only[execOp,ho,hv];simp[F3 hue he hb];rfl) (Or.inr ⟨rfl,fun f' xs' h'=>?_⟩) (by simpa[AV.refs_one,A0.refs]using h1r)
     obtain⟨rfl,rfl⟩:=same f' xs' h'
     rw[hr'.1,hr'.2]
     exact⟨Nat.le_refl 0,.inl ⟨rfl,_,_,rfl⟩,fun _=> .inl ⟨rfl,d1,rfl⟩⟩
    ·rw[d1]at hv
     have hb:=hs.bounds (P:=P) (isS:=true) (cap:=cap) hl hu hr d2
     refine B1.put hs (by simp only[execOp,ho,hv];simp[F3 hue he hb];rfl) (Or.inr ⟨rfl,fun f' xs' h'=>?_⟩) (by simpa[AV.refs_one,A0.refs]using h1r)
     have hx':xs'.length=xs.length:=by obtain⟨rfl,rfl⟩:=same f' xs' h';rfl
     obtain⟨rfl,_⟩:=same f' xs' h'
     refine⟨by rw[hx'];omega,?_,fun hl0=> .inr ⟨b,_,cap,d1,?_⟩⟩
     ·by_cases h0:u.toNat - l.toNat=0
      ·exact .inl ⟨h0,_,_,by rw[h0]⟩
      ·refine .inr ⟨b,_,cap,cap - l.toNat,d1,?_,by omega⟩
       rw[if_neg (by omega)];simp[H4]
     ·rw[hl0]
      split
      ·simp
      ·simp[H4]
   ·cases h
  ·cases h
 ·rename_i r off len hx
  split at h
  ·rename_i f xs hr0
   cases hel:E.isEl t f<;>simp only[hel,zB,zA]at h
   ·cases h
   split at h
   ·rename_i l u hl hu
    obtain⟨hr,rfl⟩:=zQ (oI h)
    rw[zG]at hr
    obtain⟨e,eb,hue,he⟩:=hE.isEl hel
    obtain⟨h1,h1r⟩:=hs.ev1 hx (by simp)
    obtain⟨hle,hv,hhd⟩:=h1.2 f xs (St.dat_of hr0)
    have same:∀(f':Kd) (xs':List f'.T),σ.dat r f' xs'→∃e:f=f',xs'=L7 e xs:=by
     intro f' xs' h';obtain⟨rfl,hq⟩:=St.dat_data hr0 h';exact⟨rfl,(eq_of_heq hq).symm⟩
    rcases hv with⟨rfl,p,c,hv⟩|⟨b,n,cap,c',d1,hv,d3⟩
    ·have hb:=hs.bounds (P:=P) (isS:=true) (n:=0) (cap:=c) hl hu hr (by simp)
     have hr':u=0∧l=0:=by simp at hr;omega
     refine B1.put hs (by simp only[execOp,ho,hv];simp[F3 hue he hb];rfl) (Or.inr ⟨rfl,fun f' xs' h'=>?_⟩) (by simpa[AV.refs_one,A0.refs]using h1r)
     obtain⟨rfl,rfl⟩:=same f' xs' h'
     rw[hr'.1,hr'.2]
     refine⟨hle,.inl ⟨rfl,_,_,rfl⟩,fun h0=>?_⟩
     rcases hhd (by omega)with⟨_,q1,q2⟩|⟨b,n,cap,q1,q2⟩
     ·rw[hv]at q2;simp at q2;obtain⟨rfl,rfl⟩:=q2
      exact .inl ⟨rfl,q1,rfl⟩
     ·rw[hv]at q2;simp at q2;obtain⟨rfl,rfl⟩:=q2
      refine .inr ⟨b,n,c,q1,?_⟩
      simp[H4]
    ·have hb:=hs.bounds (P:=P) (isS:=true) (cap:=c') hl hu hr d3
     refine B1.put hs (by simp only[execOp,ho,hv];simp[F3 hue he hb];rfl) (Or.inr ⟨rfl,fun f' xs' h'=>?_⟩) (by simpa[AV.refs_one,A0.refs]using h1r)
     have hx':xs'.length=xs.length:=by obtain⟨rfl,rfl⟩:=same f' xs' h';rfl
     obtain⟨rfl,_⟩:=same f' xs' h'
     refine⟨by rw[hx'];omega,?_,fun h0=>?_⟩
     ·by_cases h0:u.toNat - l.toNat=0
      ·exact .inl ⟨h0,_,_,by rw[h0]⟩
      ·refine .inr ⟨b,n,cap,c' - l.toNat,d1,?_,by omega⟩
       rw[if_neg (by omega)];simp[H4,zD1]
     ·obtain⟨ho,hl0⟩:off=0∧l.toNat=0:=by omega
      rcases hhd ho with⟨_,q1,q2⟩|⟨b',n',cap',q1,q2⟩
      ·rw[hv]at q2;simp at q2
      ·rw[hv]at q2;simp at q2;obtain⟨⟨rfl,_⟩,rfl⟩:=q2
       refine .inr ⟨_,n',_,q1,?_⟩
       rw[hl0,ho]
       simp[H4]
   ·cases h
  ·cases h
 ·cases h
theorem A44 (hs:Sim X σ a w G){o:Oper}{fn:Fn}{fs cs:Array Operand}(ho:o.op= .makeFunc fn fs cs)(h:A0o o fn fs cs σ=some (true,σ')):B1 P X o σ' a w:=by
 unfold A0o at h
 split at h
 ·rename_i g hfs
  obtain⟨caps,hcaps,h⟩:=oB h
  have key:∀(l:List Operand) (caps:List Cap),(l.mapM fun x=>match σ.ev1 x with
   |some (.ptr r 0 0)=>match σ.look r with
    |some (.box _ _)=>some (Cap.own r)
    |_=>none
   |_=>none)=some caps→A7 (S4 X σ w.heap G) caps (l.map a.eval)∧∀r∈(A0.clo g caps).refs,∃row,σ.look r=some row:=by
   intro l
   induction l with
   |nil=>intro caps h;simp at h;subst h;exact⟨.nil,by simp[A0.refs]⟩
   |cons x l ih=>
    intro caps h
    rw[List.mapM_cons]at h
    obtain⟨c,hc,h⟩:=oB h
    obtain⟨cs,hcs,h⟩:=oB h
    obtain rfl:=oI h
    obtain⟨h1,h2⟩:=ih cs hcs
    split at hc
    ·rename_i r hx
     split at hc
     ·rename_i f ls hr
      obtain rfl:=oI hc
      have hl:=(hs.ev1 hx (by simp)).1
      refine⟨.cons ⟨hl.1,fun f' ls' hr'=>?_⟩ h1,?_⟩
      ·obtain⟨b,e1,e2⟩:=hl.2.2 f' ls' hr'
       rw[e1,e2]
      ·intro q hq
       simp only[A0.refs,List.filterMap_cons,List.mem_cons]at hq
       rcases hq with rfl|hq
       ·exact⟨_,hr⟩
       ·exact h2 q hq
     ·cases hc
    ·cases hc
  obtain⟨h1,h2⟩:=key _ _ hcaps
  have hfs':fs=#[]:=by rw[←Array.toArray_toList (xs:=fs),hfs]
  refine B1.one hs h (v:= .func (.func g) #[] (cs.map a.eval)) (by simp[execOp,ho,Instr.makeFunc,hfs']) ⟨cs.toList.map a.eval,?_,h1⟩ h2
  rw[←Array.toList_map]
 ·cases h
theorem B16 {xs ys:List Value}(h:xs=ys):xs.toArray=ys.toArray:=by rw[h]
theorem F7 {b o n:Nat}{arr:Array Value}{e:TypeId}{fr:Nat×Nat}(hb:w.heap[b]?=some (.cells arr e fr))(hn:(seg arr o n).length=n):
  (loadCells ⟨b,o,none⟩ n).run P w= .ok (seg arr o n).toArray w:=by
 have h:=run_loadCells_list (P:=P) w ⟨b,o,none⟩ (seg arr o n) (fun j v hj=>by
  have hlt:j<n:=by rw[←hn];exact(List.getElem?_eq_some_iff.mp hj).1
  rw[C5 hlt]at hj
  simp[World.cell?,H4,hb,hj])
 rw[hn]at h
 exact h
theorem A59 {arr:Array Value}{o n c m:Nat}(h:c+m≤n):((seg arr o n).drop c).take m=seg arr (o+c) m:=by
 simp only[seg]
 rw[List.drop_take,List.drop_drop,List.take_take]
 congr 1
 omega
theorem A7a {arr:Array Value}{c m:Nat}:(arr.toList.drop c).take m=seg arr c m:=rfl
theorem A6n.agg {t:TypeId}{i:Ti}(h:A6n P t i)(w:World):(isAgg t).run P w= .ok i.agg w:=by
 obtain⟨d,hd,hok⟩:=h.desc
 unfold isAgg
 cases d<;>simp only[U7]at hok
 case bool=>simp[underlying,hd,hok.2.1]
 case int=>simp[underlying,hd,hok.2.1]
 case string=>simp[underlying,hd,hok.2.1]
 case slice=>obtain⟨_,_,hok,_⟩:=hok;simp[underlying,hd,hok.1]
 case struct=>simp[underlying,hd,hok.1]
theorem A6n.noAggSize {t:TypeId}{i:Ti}(h:A6n P t i)(hi:i.agg=false):i.size=1:=by
 obtain⟨d,hd,hok⟩:=h.desc
 rw[h.size]
 cases d<;>simp only[U7]at hok
 case bool=>simp[hok.1,Kd.size]
 case int=>simp[hok.1,Kd.size]
 case string=>simp[hok.1,Kd.size]
 case slice=>obtain⟨_,hok,_⟩:=hok;simp[hok,Kd.size]
 case struct=>rw[hi]at hok;exact absurd hok.1 (by simp)
theorem X0 {t:TypeId}{i:Ti}(ht:A6n P t i){b o:Nat}{arr:Array Value}{e:TypeId}{fr:Nat×Nat}(hb:w.heap[b]?=some (.cells arr e fr)){ls:List A0}{y:TV}
  (hl:A7 (A5 X σ w.heap G) ls (seg arr o i.size)) (hls:ls.length=i.size) (hy:A48 i.agg ls=some y):∃v,(loadVar t ⟨b,o,none⟩).run P w= .ok v w∧L1 X σ w.heap G y v:=by
 obtain⟨j,z,hj,hsz,_⟩:=ht.info
 have hlen:(seg arr o i.size).length=i.size:=by rw[←hl.length,hls]
 cases hag:i.agg
 ·have h1:=ht.noAggSize hag
  rw[h1]at hl hlen hls
  unfold A48 at hy
  rw[hag,zA]at hy
  split at hy
  ·rename_i l
   obtain rfl:=oI hy
   obtain⟨v,hv,r⟩:=hl.get (i:=0) (a:=l) rfl
   rw[C5 (by omega)]at hv
   refine⟨v,?_,Or.inr r⟩
   simp only[Nat.add_zero]at hv
   simp[loadVar,ht.agg,hag,World.cell?,hb,hv]
  ·cases hy
 ·unfold A48 at hy
  rw[hag,zB]at hy
  obtain rfl:=oI hy
  refine⟨.agg (seg arr o i.size).toArray,?_,⟨_,rfl,hl⟩⟩
  simp[loadVar,ht.agg,hag,run_sizeOf hj,hsz,F7 hb hlen]
theorem A2.shL {S:Nat→Prop}{h:Array Obj}(hS:∀q,S q→Imm X σ h G q):∀{f:Kd} {x:f.T} {vs:List Value},A2 false h f x vs S→A7 (A5 X σ h G) (E2 f x) vs
 | .int k,n,vs,hc=>by simp only[A2]at hc;subst hc;exact .cons rfl .nil
 | .bool,n,vs,hc=>by simp only[A2]at hc;subst hc;exact .cons rfl .nil
 | .str,n,vs,hc=>by simp only[A2]at hc;subst hc;exact .cons rfl .nil
 | .sl f,xs,vs,hc=>by
  have hl:=hc.len
  match vs,hl with
  |[v],_=>exact .cons (hc.mono hS) .nil
 | .pair a b,p,vs,hc=>by
  simp only[A2]at hc
  obtain⟨v1,v2,side,rfl,h1,h2⟩:=hc
  exact(A2.shL hS (h1.mono fun q hq=>hq.1)).append (A2.shL hS (h2.mono fun q hq=>hq.1))
theorem owL {r i b n cap:Nat}{f0:Kd}{xs:List f0.T}{arr:Array Value}{e:TypeId}{fr:Nat×Nat}{h:Array Obj}(hr:σ.look r=some (.data f0 xs))(hi:i<xs.length)
  (hv:G.hv r= .slice (some ⟨b,0,none⟩) n cap) (hb:h[b]?=some (.cells arr e fr)) {o:Bool}:
  ∀{a:Kd} {x:a.T} {c:Nat} {vs:List Value} {S:Nat→Prop},A2 o h a x vs S→(∀j,j<vs.length→arr[i*f0.size+c+j]?=vs[j]?)→c+a.size≤f0.size→A7 (A5 X σ h G) (H2 r i a x c) vs
 | .int k,n,c,vs,S,hc,_,_=>by simp only[A2]at hc;subst hc;exact .cons rfl .nil
 | .bool,n,c,vs,S,hc,_,_=>by simp only[A2]at hc;subst hc;exact .cons rfl .nil
 | .str,n,c,vs,S,hc,_,_=>by simp only[A2]at hc;subst hc;exact .cons rfl .nil
 | .sl f,ys,c,vs,S,hc,hj,hle=>by
  have hl:=hc.len
  match vs,hl with
  |[v],_=>
   refine .cons ⟨hc.one,fun f' xs' hr'=>?_⟩ .nil
   obtain⟨rfl,hq⟩:=St.dat_data hr hr';obtain rfl:=eq_of_heq hq
   simp only[Kd.size]at hle
   exact⟨hi,by omega,b,n,cap,arr,e,fr,hv,hb,by have:=hj 0 (by simp);simpa using this⟩
 | .pair a d,p,c,vs,S,hc,hj,hle=>by
  simp only[A2]at hc
  obtain⟨v1,v2,side,rfl,h1,h2⟩:=hc
  simp only[Kd.size]at hle
  refine(owL hr hi hv hb h1 (fun j hlt=>?_) (by omega)).append (owL hr hi hv hb h2 (fun j hlt=>?_) (by omega))
  ·have:=hj j (by simp;omega)
   rw[List.getElem?_append_left hlt]at this;exact this
  ·have:=hj (a.size+j) (by simp[h1.len];omega)
   rw[List.getElem?_append_right (by rw[h1.len];omega),h1.len,Nat.add_sub_cancel_left]at this
   rw[←this];congr 1;omega
theorem A7.cut {ls ms:List A0}{vs:List Value}{c n:Nat}{R:A0→Value→Prop}(h:A7 R ls vs)(hc:cut ls c n=some ms):A7 R ms ((vs.drop c).take n)∧ms.length=n∧c+n≤ls.length:=by
 unfold Ev.cut at hc
 cases hb:Nat.ble (c+n) ls.length<;>simp only[hb,zB,zA]at hc
 ·cases hc
 ·obtain rfl:=oI hc
  have:=Nat.ble_true hb
  exact⟨(h.drop c).take n,by simp;omega,this⟩
theorem A3m {ls ms:List A0}{c n:Nat}(hc:cut ls c n=some ms):∀l∈ms,l∈ls:=by
 unfold Ev.cut at hc
 cases hb:Nat.ble (c+n) ls.length<;>simp only[hb,zB,zA]at hc
 ·cases hc
 ·obtain rfl:=oI hc
  intro l hl
  exact List.mem_of_mem_drop (List.mem_of_mem_take hl)
theorem M6:∀(f:Kd) (x:f.T),∀l∈E2 f x,l.refs=[]
 | .int _,_,l,h=>by simp[E2]at h;subst h;rfl
 | .bool,_,l,h=>by simp[E2]at h;subst h;rfl
 | .str,_,l,h=>by simp[E2]at h;subst h;rfl
 | .sl _,_,l,h=>by simp[E2]at h;subst h;rfl
 | .pair a b,p,l,h=>by
  simp only[E2,zY]at h
  rcases h with h|h
  ·exact M6 a p.1 l h
  ·exact M6 b p.2 l h
theorem S6 (r i:Nat):∀(f:Kd) (x:f.T) (c:Nat),∀l∈H2 r i f x c,∀q∈l.refs,q=r
 | .int _,_,_,l,h=>by simp[H2]at h;subst h;simp[A0.refs]
 | .bool,_,_,l,h=>by simp[H2]at h;subst h;simp[A0.refs]
 | .str,_,_,l,h=>by simp[H2]at h;subst h;simp[A0.refs]
 | .sl _,_,_,l,h=>by simp[H2]at h;subst h;simp[A0.refs]
 | .pair a b,p,c,l,h=>by
  simp only[H2,zY]at h
  rcases h with h|h
  ·exact S6 r i a p.1 c l h
  ·exact S6 r i b p.2 _ l h
theorem A4s {ag:Bool}{ls:List A0}{y:TV}(h:A48 ag ls=some y):y.leaves=ls:=by
 unfold A48 at h
 cases ag<;>simp only[zB,zA]at h
 ·split at h
  ·obtain rfl:=oI h;rfl
  ·cases h
 ·obtain rfl:=oI h;rfl
theorem Sim.loadT (hE:B4 P E)(hs:Sim X σ a w G){t:TypeId}{x:Operand}{y:TV}(h:loadT E X.deep t x σ=some y):
  ∃v q,a.eval x= .pointer (some q)∧(loadVar t q).run P w= .ok v w∧L1 X σ w.heap G y v∧∀l∈y.leaves,∀r∈l.refs,∃row,σ.look r=some row:=by
 unfold Ev.loadT at h
 split at h
 ·rename_i i l hi hx
  have ht:=hE.ty t i hi
  obtain⟨ls,hls,hyy⟩:=oB h
  have hleaves:=A4s hyy
  unfold R0 at hls
  split at hls
  ·rename_i r j c
   obtain⟨h1,h2⟩:=hs.ev1 hx (by simp)
   split at hls
   ·rename_i f bs hr
    split at hls
    ·obtain⟨b,hv,e⟩:=h1.2.2 f bs hr
     obtain⟨b',arr,et,fr,d1,d2,d3,d4,d5,d6⟩:=hs.row r _ hr
     rw[hv]at d1;simp at d1;subst d1
     obtain⟨k1,k2,k3⟩:=d6.cut hls
     obtain⟨v,hv1,hv2⟩:=X0 (P:=P) ht d3 (o:=c) (by rw[←A7a];exact k1) k2 hyy
     refine⟨v,_,e,hv1,hv2,fun l hl q hq=>?_⟩
     rw[hleaves]at hl
     exact hs.rrefs r f bs hr q (by simp only[zB1];exact⟨l,A3m hls l hl,hq⟩)
    ·cases hls
   ·rename_i f xs hr
    obtain⟨hlt,b,n,cap,hv,e⟩:=h1.2.1 f xs (St.dat_of hr)
    rcases hs.row r _ hr with⟨rfl,_⟩|⟨b',cap',arr,et,fr,ow,d1,d2,d3,d4,d5,d6,d7⟩
    ·simp at hlt
    ·rw[hv]at d1;simp at d1;obtain⟨rfl,rfl,rfl⟩:=d1
     have hel:=d7 j _ (R9 (d:=f.zero) hlt)
     have hall:A7 (A5 X σ w.heap G) (A10 X.deep r j f (xs.getD j f.zero)) (seg arr (j*f.size) f.size):=by
      unfold A10
      cases hd:X.deep<;>simp only[zB,zA]
      ·rw[hd]at hel
       refine hel.shL fun q hq=>?_
       unfold C0 at hq
       rw[hd,if_neg (by simp)]at hq
       exact hq
      ·refine owL hr hlt hv d4 hel (fun k hk=>?_) (by omega)
       rw[hel.len]at hk
       rw[C5 hk,Nat.add_zero]
     obtain⟨k1,k2,k3⟩:=hall.cut hls
     rw[hall.length,hel.len]at k3
     rw[A59 k3]at k1
     obtain⟨v,hv1,hv2⟩:=X0 (P:=P) ht d4 (o:=j*f.size+c) k1 k2 hyy
     refine⟨v,_,e,hv1,hv2,fun l hl q hq=>?_⟩
     rw[hleaves]at hl
     have hl':=A3m hls l hl
     unfold A10 at hl'
     cases hd:X.deep<;>simp only[hd,zB,zA]at hl'
     ·rw[M6 f _ l hl']at hq;simp at hq
     ·exact⟨_,by rw[S6 r j f _ 0 l hl' q hq];exact hr⟩
   ·cases hls
  ·rename_i f z c
   obtain⟨⟨b,o,arr,et,fr,e,e2,e3,e4⟩,_⟩:=hs.ev1 hx (by simp)
   have hall:=e4.shL (X:=X) (σ:=σ) (G:=G) (fun q hq=>hq)
   obtain⟨k1,k2,k3⟩:=hall.cut hls
   rw[P0]at k3
   rw[A59 k3]at k1
   obtain⟨v,hv1,hv2⟩:=X0 (P:=P) ht e2 (o:=o+c) k1 k2 hyy
   refine⟨v,_,e,hv1,hv2,fun l hl q hq=>?_⟩
   rw[hleaves]at hl
   rw[M6 f _ l (A3m hls l hl)]at hq;simp at hq
  ·cases hls
 ·cases h
theorem A85 (hE:B4 P E)(hs:Sim X σ a w G){o:Oper}{t:TypeId}{x:Operand}(ho:o.op= .load t x)(h:A0n E X.deep o t x σ=some (true,σ')):B1 P X o σ' a w:=by
 unfold A0n at h
 obtain⟨y,hy,h⟩:=oB h
 obtain⟨_,rfl⟩:=zQ (oI h)
 obtain⟨v,q,e,hv,hr,hrefs⟩:=hs.loadT hE hy
 refine B1.put hs (v:=v) (by simp[execOp,ho,Instr.loadAt,e,Instr.sureAddr,hv]) hr fun r hr=>?_
 simp only[AV.refs,AV.leaves,zB1]at hr
 obtain⟨l,hl,hr⟩:=hr
 exact hrefs l hl r hr
end
end Go.Proofs.Ytalmhjlcjcnidaa.Ev

/- Variables, structs, conversions. -/
import Derived.Test.YtalmhjlcjcnidaaEvOps6
import Derived.Laws.IdiomStrings
import Derived.Laws.BytesArg
set_option linter.all false
namespace Go.Proofs.Ytalmhjlcjcnidaa.Ev
open Go
section
variable {P:Program} {E:Env} {X:Ctx} {σ σ':St} {a:Act} {w w':World} {G:Gh}
theorem Fr.newRow (hs:Sim X σ a w G){used own:List Nat}(hused:∀r∈used,∃f xs,σ.look r=some (.data f xs)){n:Nat}(hn:σ.look n=none)
  (hsize:w.heap.size≤w'.heap.size) (hfree:∀q,q<w.heap.size→(∀r∈used,G.rt q≠some r)→w'.heap[q]?=w.heap[q]?) {row:A6} {v:Value}:
  Fr X σ w.heap G ((σ.kill used).setRow n row) w'.heap (G.take w w' used own n v):=by
 have hlook:∀r,(∃row,σ.look r=some row)→((σ.kill used).setRow n row).look r=if r∈used then some .dead else σ.look r:=by
  intro r ⟨row',h⟩
  rw[A3,A9,if_neg]
  rintro rfl;rw[hn]at h;cases h
 refine⟨fun q hq=>⟨A1i hused hsize hq,hfree q hq.1 fun r hr e=>?_⟩,fun r f ys hd hr=>?_,fun r f ls hd hr=>?_⟩
 ·obtain⟨f,xs,h⟩:=hused r hr
  exact hq.2.2 r e ⟨_,h,by simp⟩
 ·obtain⟨row',hr,har⟩:=hr
  rw[hlook r hd]at hr
  split at hr
  ·obtain rfl:=oI hr;cases har
  ·refine⟨ys,⟨_,hr,har⟩,rfl,?_⟩
   simp only[Gh.take]
   rw[if_neg];rintro rfl;rw[hn]at hr;cases hr
 ·rw[hlook r hd]at hr
  split at hr
  ·cases hr
  ·refine⟨f,ls,hr,?_⟩
   simp only[Gh.take]
   rw[if_neg];rintro rfl;rw[hn]at hr;cases hr
theorem A5.newRow (hs:Sim X σ a w G){n:Nat}(hn:σ.look n=none)
  (hsize:w.heap.size≤w'.heap.size) (hfree:∀q,q<w.heap.size→w'.heap[q]?=w.heap[q]?) {row:A6} {u:Value} {l:A0} {v:Value}
  (hd:∀r∈l.refs,∃row,σ.look r=some row) (hl:A5 X σ w.heap G l v):A5 X (σ.setRow n row) w'.heap (G.take w w' [] [] n u) l v:=by
 refine A5.pres (Fr.newRow (used:=[]) hs (by simp) hn hsize (fun q hq _=>hfree q hq)) hd ?_ hl
 rintro r i c rfl f ys hr b m cap hv
 obtain⟨row',h⟩:=hd r (by simp[A0.refs])
 have hne:r≠n:=by rintro rfl;rw[hn]at h;cases h
 have hlk:(σ.setRow n row).look r=σ.look r:=by rw[A3,if_neg hne]
 exact hfree b (hs.lt b r (hs.datRt ((St.dat_congr hlk).mp hr) hv))
theorem A3b:σ.kill []=σ:=rfl
theorem Sim.addRows (hs:Sim X σ a w G):∀{rs:List (Nat×A6)} {σ':St},(∀p∈rs,∃f,p.2= .data f [])→σ.addRows rs=some σ'→
  ∃G',Sim X σ' a w G'∧(∀p∈rs,σ.look p.1=none∧σ'.look p.1=some p.2∧G'.hv p.1= .slice none 0 0)∧
   (∀r row,σ.look r=some row→σ'.look r=some row∧G'.hv r=G.hv r)∧
   (∀l v,(∀r∈l.refs,∃row,σ.look r=some row)→A5 X σ w.heap G l v→A5 X σ' w.heap G' l v)∧(σ'.slots=σ.slots):=by
 intro rs
 induction rs generalizing σ G with
 |nil=>
  intro σ' _ h
  simp only[St.addRows,zO]at h;subst h
  exact⟨G,hs,by simp,fun r row h=>⟨h,rfl⟩,fun l v _ h=>h,rfl⟩
 |cons p rs ih=>
  obtain⟨n,row⟩:=p
  intro σ' hp h
  simp only[St.addRows]at h
  split at h
  ·rename_i hn
   obtain⟨f,hf⟩:=hp _ (zM ..)
   dsimp only at hf;subst hf
   have h1:=hs.newRow (used:=[]) (own:=[]) (n:=n) (row:= .data f []) (v:= .slice none 0 0) (w':=w) (by simp) hn (Nat.le_refl _) rfl rfl rfl (fun q _ _=>rfl) (.inl ⟨rfl,Gh.take_hv⟩) (fun _ _ e=>by cases e)
   rw[A3b]at h1
   obtain⟨G',k1,k2,k3,k4,k5⟩:=ih h1 (fun p hp'=>hp p (zF _ hp')) h
   have hnew:(σ.setRow n (.data f [])).look n=some (.data f []):=by rw[A3,if_pos rfl]
   have hold:∀r row,σ.look r=some row→(σ.setRow n (.data f [])).look r=some row∧r≠n:=by
    intro r row hr
    have hne:r≠n:=by rintro rfl;rw[hn]at hr;cases hr
    exact⟨by rw[A3,if_neg hne];exact hr,hne⟩
   refine⟨G',k1,?_,?_,?_,k5⟩
   ·intro p hp'
    rcases List.mem_cons.mp hp' with rfl|hp'
    ·obtain⟨m1,m2⟩:=k3 n _ hnew
     exact⟨hn,m1,by rw[m2];exact Gh.take_hv⟩
    ·obtain⟨m1,m2,m3⟩:=k2 p hp'
     refine⟨?_,m2,m3⟩
     rw[A3]at m1
     split at m1
     ·cases m1
     ·exact m1
   ·intro r row hr
    obtain⟨m1,m2⟩:=hold r row hr
    obtain⟨m3,m4⟩:=k3 r row m1
    exact⟨m3,by rw[m4];simp[Gh.take,m2]⟩
   ·intro l v hd hl
    refine k4 l v (fun r hr=>?_) (A5.newRow hs hn (Nat.le_refl _) (fun _ _=>rfl) hd hl)
    obtain⟨row,h⟩:=hd r hr
    exact⟨row,(hold r row h).1⟩
  ·cases h
theorem M7 (dst:Option Nat):∀(f:Kd) (c:Nat),∀p∈B7 dst f c,∃g,p.2= .data g []
 | .int _,_,p,h=>by simp[B7]at h
 | .bool,_,p,h=>by simp[B7]at h
 | .str,_,p,h=>by simp[B7]at h
 | .sl f,_,p,h=>by simp[B7]at h;exact⟨f,by rw[h]⟩
 | .pair a b,c,p,h=>by
  simp only[B7,zY]at h
  rcases h with h|h
  ·exact M7 dst a c p h
  ·exact M7 dst b _ p h
theorem R6 (dst:Option Nat):∀(f:Kd) (c:Nat),(B6 dst f c).length=f.size
 | .int _,_| .bool,_| .str,_| .sl _,_=>rfl
 | .pair a b,c=>by simp[B6,R6 dst a,R6 dst b,Kd.size]
theorem L6 {R:A0→Value→Prop}(dst:Option Nat):∀(f:Kd) (c:Nat),(∀k n,n=(0:Int)→R (.int k n) (.int k n))→R (.bool false) (.bool false)→R (.str ⟨#[]⟩) (.string ⟨#[]⟩)→
  (∀k g,(k,A6.data g [])∈B7 dst f c→R (.ow k) (.slice none 0 0))→A7 R (B6 dst f c) (B3 f)
 | .int _,_,h1,_,_,_=> .cons (h1 _ _ rfl) .nil
 | .bool,_,_,h,_,_=> .cons h .nil
 | .str,_,_,_,h,_=> .cons h .nil
 | .sl f,c,_,_,_,h=> .cons (h _ f (by simp[B7])) .nil
 | .pair a b,c,h1,h2,h3,h4=>by
  simp only[B6,B3]
  refine(L6 dst a c h1 h2 h3 fun k g hk=>h4 k g ?_).append (L6 dst b _ h1 h2 h3 fun k g hk=>h4 k g ?_)
  ·simp only[B7,zY];exact .inl hk
  ·simp only[B7,zY];exact .inr hk
theorem A98 (hs:Sim X σ a w G){n:Nat}{f:Kd}{ls:List A0}(h:σ.addRows [(n,.box f ls)]=some σ'){vs:Array Value}{e:TypeId}(hl:A7 (A5 X σ w.heap G) ls vs.toList)
  (hd:∀r∈ls.flatMap A0.refs,∃row,σ.look r=some row) (hlen:ls.length=f.size) {o:Oper} (hrun:(execOp a.eval o).run P w= .ok (.value (.pointer (some ⟨w.heap.size,0,none⟩))) (w.alloc (.cells vs e))):
  B1 P X o (σ'.put o.dst (.v (.one (.ptr n 0 0)))) a w:=by
 simp only[St.addRows]at h
 split at h
 ·rename_i hn
  simp only[zO]at h;subst h
  have hrow:E7 X ((σ.kill []).setRow n (.box f ls)) (w.alloc (.cells vs e)).heap (G.take w (w.alloc (.cells vs e)) [] [] n (.pointer (some ⟨w.heap.size,0,none⟩))) n (.box f ls):=by
   refine⟨w.heap.size,vs,e,(0,0),Gh.take_hv,Gh.take_new (by omega) (by simp),S9 w _,fun _ _ h=>by simp at h,hlen,hl.monoMem fun l hm v hv=>?_⟩
   refine A5.newRow (w':=w.alloc (.cells vs e)) hs hn (by simp) (fun q hq=>alloc_old w _ hq) (fun r hr=>hd r ?_) hv
   simp only[zB1];exact⟨l,hm,hr⟩
  have hs':=hs.newRow (w':=w.alloc (.cells vs e)) (used:=[]) (own:=[]) (n:=n) (row:= .box f ls) (by simp) hn (by simp) rfl rfl rfl (fun q hq _=>alloc_old w _ hq) hrow (by
   intro f' ls' e' q hq
   simp at e';obtain⟨_,rfl⟩:=e'
   obtain⟨row,hr⟩:=hd q hq
   rw[A3,A3b]
   split
   ·exact⟨_,rfl⟩
   ·exact⟨_,hr⟩)
  refine⟨_,_,_,.inl hrun,hs'.put (Or.inr ⟨rfl,fun f' xs' hl=>?_,fun f' ls' hl=>⟨_,Gh.take_hv,rfl⟩⟩) ?_⟩
  ·exact(St.dat_box (show((σ.kill []).setRow n (.box f ls)).look n=some (.box f ls)by rw[A3,if_pos rfl]) hl).elim
  ·intro r hr
   simp only[AV.refs_one,A0.refs,zF1]at hr
   subst hr
   exact⟨_,by rw[A3,if_pos rfl]⟩
 ·cases h
theorem A9e (hE:B4 P E)(hs:Sim X σ a w G){o:Oper}{t:TypeId}{x:Operand}(ho:o.op= .box t x)(h:A9d E o t x σ=some (true,σ')):B1 P X o σ' a w:=by
 unfold A9d at h
 split at h
 ·rename_i y i hy hi
  cases hl:Nat.beq y.leaves.length i.size<;>simp only[hl,zB,zA]at h
  ·cases h
  obtain⟨τ,h1,h2⟩:=oB h
  simp only[St.put1,okS]at h2
  obtain⟨_,rfl⟩:=zQ (oI h2)
  obtain⟨_,k2,k3⟩:=hs.evT hy
  refine A98 hs h1 k2 k3 (by rw[zN hl,(hE.ty t i hi).size]) ?_ (e:=t)
  simp[execOp,ho,Instr.box,newVar,Go.newRow]
 ·cases h
theorem A6y (hE:B4 P E)(hs:Sim X σ a w G){o:Oper}{t:TypeId}(ho:o.op= .alloc t)(h:A01 E o t σ=some (true,σ')):B1 P X o σ' a w:=by
 unfold A01 at h
 obtain⟨i,hi,h⟩:=oB h
 obtain⟨σ1,h1,h⟩:=oB h
 obtain⟨σ2,h2,h⟩:=oB h
 simp only[St.put1,okS]at h
 obtain⟨_,rfl⟩:=zQ (oI h)
 obtain⟨j,z,hj,hsz,hz,hzc⟩:=(hE.ty t i hi).info
 obtain⟨G',k1,k2,k3,k4,k5⟩:=hs.addRows (M7 _ _ _) h1
 refine A98 (vs:=z.cells) (e:=t) k1 h2 ?_ ?_ (R6 ..) ?_
 ·rw[hzc]
  refine L6 o.dst i.kd 0 (fun _ _ _=>rfl) rfl rfl fun k g hk=>?_
  obtain⟨_,m2,m3⟩:=k2 _ hk
  exact⟨rfl,fun f xs hl=>m3.symm⟩
 ·intro r hr
  obtain⟨l,hl,hr⟩:=zB1.mp hr
  have:∀(f:Kd) (c:Nat),l∈B6 o.dst f c→∃g,(r,A6.data g [])∈B7 o.dst f c:=by
   intro f
   induction f with
   |int k=>intro c h;simp[B6]at h;subst h;simp[A0.refs]at hr
   |bool=>intro c h;simp[B6]at h;subst h;simp[A0.refs]at hr
   |str=>intro c h;simp[B6]at h;subst h;simp[A0.refs]at hr
   |sl g _=>intro c h;simp[B6]at h;subst h;simp[A0.refs]at hr;subst hr;exact⟨g,by simp[B7]⟩
   |pair a b iha ihb=>
    intro c h
    simp only[B6,zY]at h
    simp only[B7,zY]
    rcases h with h|h
    ·obtain⟨g,hg⟩:=iha _ h;exact⟨g,.inl hg⟩
    ·obtain⟨g,hg⟩:=ihb _ h;exact⟨g,.inr hg⟩
  obtain⟨g,hg⟩:=this _ _ hl
  exact⟨_,(k2 _ hg).2.1⟩
 ·simp[execOp,ho,Instr.alloc,zeroValue,run_typeInfo hj,hz,newVar,Go.newRow]
theorem A54 (hE:B4 P E)(hs:Sim X σ a w G){o:Oper}{t u:TypeId}{x:Operand}(ho:o.op= .convert t u x)(h:P3 E o t u x σ=some (true,σ')):B1 P X o σ' a w:=by
 unfold P3 at h
 have hund:∀(z y:A0),H3 σ z=some y→z≠ .undef:=by rintro z y hz rfl;cases hz
 split at h
 ·rename_i i j l hi hj hx
  split at h
  ·rename_i k n
   have h1:=(hs.ev1 hx (by simp)).1
   simp only[A5]at h1
   have hu:=hE.pl hi
   have hv:=hE.pl hj
   simp only[A8h]at hu hv
   refine B1.one hs h ?_ rfl (by simp[A0.refs])
   simp[execOp,ho,h1,convert,underlying,hu,hv,Conv.intToInt]
  ·rename_i s
   have h1:=(hs.ev1 hx (by simp)).1
   simp only[A5]at h1
   have hu:=hE.pl hi
   have hv:=hE.pl hj
   simp only[A8h]at hu hv
   refine B1.one hs h ?_ rfl (by simp[A0.refs])
   simp[execOp,ho,h1,convert,underlying,hu,hv]
  ·rename_i s
   obtain⟨τ,h1,h2⟩:=oB h
   simp only[okS]at h2
   obtain⟨_,rfl⟩:=zQ (oI h2)
   have hv:=(hs.ev1 hx (by simp)).1
   simp only[A5]at hv
   have hu:=hE.pl hi
   simp only[A8h]at hu
   obtain⟨e,j,hj,hd,he,hel⟩:=hE.bytes hj
   have hcap:s.size≤grownCap w s.size 0 e:=by simp[grownCap,Question.cut]
   generalize hgc:grownCap w s.size 0 e=cap at hcap
   have hrun:=run_bytes_of_string (P:=P) w t u e s hu hd he
   rw[hgc]at hrun
   generalize hC:bytesRow s cap=C at hrun
   have hCs:C.size=cap:=by rw[←hC];simp only[bytesRow,Array.size_append,Array.size_map,Array.size_replicate];change s.size+_=_;omega
   have hlen:(s.data.toList.map fun b=>(b.toNat:Int)).length=s.size:=by simp
   have h1':(σ.kill []).fresh o 0 (.int .u8) (s.data.toList.map fun b=>(b.toNat:Int))=some τ:=h1
   refine B1.fresh hs (used:=[]) (own:=[]) (by simp) h1' (w':=w.drew.alloc (.cells C e (C.size,C.size+1))) (v:= .slice (some ⟨w.heap.size,0,none⟩) s.size cap) (by simp[execOp,ho,hv,hrun]) rfl (by show _≤(w.heap.push _).size;simp) rfl rfl rfl (fun q hq _=>alloc_old w.drew _ hq) (fun nn=>?_)
   have:=A2t (w':=w.drew.alloc (.cells C e (C.size,C.size+1))) hs (used:=[]) (own:=[]) (n:=nn) (by simp) (f:= .int .u8) (xs:=s.data.toList.map fun b=>(b.toNat:Int)) (arr:=C) (e:=e) (fr:=(C.size,C.size+1)) (cap:=cap)
    (by simp) (by simp) (S9 w.drew _) (fun q hq=>alloc_old w.drew _ hq) (by rw[hlen];exact hcap) (by simp[hCs,Kd.size]) ⟨(fun q hq h=>by simp at h;omega),.inl rfl⟩ (ow:=fun _=>0) (fun i x hx=>by
     rw[List.getElem?_map]at hx
     obtain⟨b,hb,rfl⟩:=oM hx
     have hi:i<s.data.size:=by simpa using(List.getElem?_eq_some_iff.mp hb).1
     simp only[A2,Kd.size,Nat.mul_one,seg]
     have hci:C.toList[i]?=some (.int .u8 b.toNat):=by
      rw[←hC];simp only[bytesRow,Array.toList_append,Array.toList_map]
      rw[List.getElem?_append_left (by simpa using hi),List.getElem?_map,hb];rfl
     obtain⟨hl,hc⟩:=List.getElem?_eq_some_iff.mp hci
     rw[zC1 hl,hc];rfl)
   rw[hlen]at this
   exact this
  ·split at h
   ·rename_i xs hro
    obtain⟨e,i,hi,hd,he,hel⟩:=hE.bytes hi
    have hu:=hE.pl hj
    simp only[A8h]at hu
    obtain⟨p,c,hv,hx'⟩:=hs.view hro (hs.ev1 hx (hund _ _ hro)).1
    refine B1.one hs h (v:= .string (strOfNums xs)) ?_ rfl (by simp[A0.refs])
    have:(convert t u (.slice p xs.length c)).run P w= .ok (.string (strOfNums xs)) w:=by
     rcases hx' with rfl|⟨b,off,arr,et,fr,rfl,hb,hel⟩
     ·cases p with
      |none=>exact run_convert_bytes_nil w t e hd he 0 c u hu
      |some q=>
       obtain⟨b,off,m⟩:=q
       rw[run_convert_bytes_string w t u e _ _ _ hd he hu,run_bytesToString w _ _ _ [] (by simp[loadCells,loadCellsFrom])]
       rfl
     ·refine run_convert_bytes_arg w t e hd he b off _ c xs rfl (fun i hi=>?_) u hu
      have:=hel i _ (R9 (d:=(0:Int)) hi)
      simp only[A2,Kd.size,Nat.mul_one]at this
      have hq:=C5 (arr:=arr) (o:=off+i) (n:=1) (c:=0) (by omega)
      rw[this]at hq
      simp[World.cell?,hb]at hq⊢
      rw[←hq]
    simp[execOp,ho,hv,this]
   ·cases h
  ·cases h
 ·cases h
end
end Go.Proofs.Ytalmhjlcjcnidaa.Ev

/- Regions whose order is open: the operations that make or use up rows; a step. -/
import Derived.Test.YtjopjjmhpadncaaEvDraw2
set_option linter.all false
namespace Go.Proofs.Ytjopjjmhpadncaa.Ev
open Go
section
variable {E : Env} {deep : Bool} {σ τ σ' : St} {o : Oper} {c : Bool}
theorem put1_quiet {l : Leaf} {f : St → Option (Bool × St)} (h : σ.put1 o l = some (c, σ')) (hf : f τ = τ.put1 o l) : Quiet o σ σ' τ f c := by
  simp only [St.put1, okS, Option.some.injEq, Prod.mk.injEq] at h
  obtain ⟨rfl, rfl⟩ := h
  exact ⟨_, rfl, hf⟩
theorem move_fx {x : Operand} (hc : consOf E o σ = []) (hx : x ∈ o.op.operands.toList) (hl : Loc o σ τ) (h : opMove E o x σ = some (c, σ')) : ∃ τ', opMove E o x τ = some (c, τ') ∧ Fx E o σ σ' τ τ' := by
  unfold opMove at h ⊢
  rw [hl.ev x hx]
  split at h
  · rename_i h1
    obtain ⟨f, hf, h⟩ := Option.bind_eq_some_iff.mp h
    simp only [hf, Option.bind_some]
    have h' : (((σ.kill []).fresh o 0 f []).bind fun σ' => some (c, σ')) = some (c, σ') := by
      obtain ⟨σ2, h2, h3⟩ := Option.bind_eq_some_iff.mp h
      obtain ⟨rfl, rfl⟩ := Prod.mk.inj (Option.some.inj h3)
      show ((σ.fresh o 0 f []).bind _) = _
      rw [h2]; rfl
    have hct : c = true := by
      obtain ⟨σ2, h2, h3⟩ := Option.bind_eq_some_iff.mp h
      exact (Prod.mk.inj (Option.some.inj h3)).1.symm
    subst hct
    obtain ⟨τ', h2, h3⟩ := freshFx (τ := τ) hl (by simp) (by rw [hc]; simp) h'
    exact ⟨τ', h2, h3⟩
  · rename_i av hno h1
    simp only [okS, Option.some.injEq, Prod.mk.injEq] at h
    obtain ⟨rfl, rfl⟩ := h
    exact Quiet.fx (f := fun τ => okS (τ.put o.dst av)) hc ⟨av, rfl, rfl⟩
  · cases h
theorem convert_fx {s d : Nat} {x : Operand} (hq0 : quietMove o = false) (hq1 : lightOp o = false) (hc : consOf E o σ = []) (hx : x ∈ o.op.operands.toList) (hl : Loc o σ τ) (h : opConvert E o s d x σ = some (c, σ')) : ∃ τ', opConvert E o s d x τ = some (c, τ') ∧ Fx E o σ σ' τ τ' := by
  have hro : ∀ l, σ.ev1 x = some l → roLeaf τ l = roLeaf σ l := fun l hl1 => roLeaf_eq fun r hr q hq => hl.lkb hx (ev1_ev hl1) (by simpa [AV.refs, AV.leaves, TV.leaves] using hr) hq
  unfold opConvert at h ⊢
  rw [hl.ev1 hx]
  split at h
  · rename_i i j l h1 h2 h3
    try simp only [h1, h2, h3]
    split at h
    · exact Quiet.fx hc (put1_quiet (f := fun τ => τ.put1 o _) h rfl)
    · exact Quiet.fx hc (put1_quiet (f := fun τ => τ.put1 o _) h rfl)
    · have hct : c = true := by
        obtain ⟨σ2, h2, h3⟩ := Option.bind_eq_some_iff.mp h
        exact (Prod.mk.inj (Option.some.inj h3)).1.symm
      subst hct
      exact freshFx (K := []) hl (by simp) (by rw [hc]; simp) h
    · rename_i l'
      rw [hro _ h3]
      split at h
      · rename_i h4; (try simp only [h4])
        exact Quiet.fx hc (put1_quiet (f := fun τ => τ.put1 o _) h rfl)
      · cases h
    · cases h
  · cases h
theorem fillParts_eq {offs : List (Nat × Nat)} : ∀ {l : List (Nat × Operand)} {ls : List Leaf}, (∀ p ∈ l, τ.evT p.2 = σ.evT p.2) → fillParts τ offs l ls = fillParts σ offs l ls
  | [], _, _ => rfl
  | (i, x) :: t, ls, h => by
    simp only [fillParts]
    have hx : τ.evT x = σ.evT x := h (i, x) (List.mem_cons_self ..)
    rw [hx]
    split
    · rw [fillParts_eq fun p hp => h p (List.mem_cons_of_mem _ hp)]
    · rfl
theorem build_fx {t : Nat} {parts : Array (Nat × Operand)} (hc : consOf E o σ = []) (hx : ∀ p ∈ parts.toList, p.2 ∈ o.op.operands.toList) (hl : Loc o σ τ) (hN : ∀ r, σ.look r = none → σ'.look r ≠ none → τ.look r = none)
    (h : opBuild E o t parts σ = some (c, σ')) : ∃ τ', opBuild E o t parts τ = some (c, τ') ∧ Fx E o σ σ' τ τ' := by
  unfold opBuild at h ⊢
  obtain ⟨i, hi, h⟩ := Option.bind_eq_some_iff.mp h
  obtain ⟨ls, hls, h⟩ := Option.bind_eq_some_iff.mp h
  simp only [hi, Option.bind_some]
  rw [fillParts_eq (σ := σ) (τ := τ) fun p hp => hl.evT (hx p hp), hls]
  simp only [Option.bind_some]
  cases ha : i.agg <;> simp only [ha, cond_true, cond_false] at h ⊢
  · cases h
  · obtain ⟨σ1, h1, h2⟩ := Option.bind_eq_some_iff.mp h
    simp only [okS, Option.some.injEq, Prod.mk.injEq] at h2
    obtain ⟨rfl, rfl⟩ := h2
    obtain ⟨k1, k2, k3, k4, k5⟩ := addRows_look h1
    obtain ⟨τ1, h3, h4⟩ := newFx (E := E) (τ := τ) (o := o) (K := []) (av := .v (.agg ls)) (by simp) (by rw [hc]; simp) (h1 : (σ.kill []).addRows _ = _) fun p hp => by
      rw [(k3 p hp).1]
      exact hN p.1 (k3 p hp).1 (by rw [St.look_put, (k3 p hp).2]; simp)
    exact ⟨_, by rw [show τ.addRows _ = some τ1 from h3]; rfl, h4⟩
theorem elemsOf_eq {f : Kd} : ∀ {l : List (Nat × Operand)} {n : Nat}, (∀ p ∈ l, τ.evT p.2 = σ.evT p.2 ∧ ∀ y, σ.evT p.2 = some y → ∀ r ∈ y.leaves.flatMap Leaf.refs, τ.look r = σ.look r) → elemsOf deep τ f n l = elemsOf deep σ f n l
  | [], _, _ => rfl
  | (i, x) :: t, n, h => by
    simp only [elemsOf]
    obtain ⟨h1, h2⟩ := h (i, x) (List.mem_cons_self ..)
    simp only at h1 h2
    rw [h1]
    cases hb : Nat.beq i n <;> simp only [cond_true, cond_false]
    split
    · rename_i y hy
      rw [ofLeaves_eq (σ := σ) (τ := τ) (h2 y hy), elemsOf_eq fun p hp => h p (List.mem_cons_of_mem _ hp)]
    · rfl
theorem elemsOf_used {f : Kd} {K : Nat → Prop} : ∀ {l : List (Nat × Operand)} {n : Nat} {p : List f.T × List Nat}, elemsOf deep σ f n l = some p → (∀ q ∈ l, ∀ y, σ.evT q.2 = some y → ∀ r ∈ y.leaves.flatMap Leaf.refs, K r) → ∀ r ∈ p.2, K r
  | [], n, p, h, _ => by simp only [elemsOf, Option.some.injEq] at h; subst h; simp
  | (i, x) :: t, n, p, h, hK => by
    simp only [elemsOf] at h
    cases hb : Nat.beq i n <;> simp only [hb, cond_true, cond_false] at h
    · cases h
    split at h
    · rename_i y hy
      obtain ⟨q, hq, h⟩ := Option.bind_eq_some_iff.mp h
      split at h
      · obtain ⟨q2, hq2, h⟩ := Option.bind_eq_some_iff.mp h
        obtain rfl := Option.some.inj h
        intro r hr
        rcases List.mem_append.mp hr with hr | hr
        · exact hK (i, x) (List.mem_cons_self ..) y hy r ((ofLeaves_rest hq).2 r hr)
        · exact elemsOf_used hq2 (fun q hq => hK q (List.mem_cons_of_mem _ hq)) r hr
      · cases h
    · cases h
theorem ref_of {x : Operand} {y : TV} (hx : x ∈ o.op.operands.toList) (hy : σ.evT x = some y) {r : Nat} (hr : r ∈ y.leaves.flatMap Leaf.refs) : r ∈ (tmpsOf o).flatMap fun t => (σ.slots.getD t undefAV).refs := by
  have he := evT_ev hy
  have hr' : r ∈ (AV.v y).refs := by simpa [AV.refs, AV.leaves] using hr
  cases x with
  | tmp t =>
    simp only [St.ev, Option.some.injEq] at he
    simp only [List.mem_flatMap]
    exact ⟨t, List.mem_filterMap.mpr ⟨.tmp t, hx, rfl⟩, by rw [he]; exact hr'⟩
  | const v =>
    simp only [St.ev] at he
    unfold constAV at he
    split at he <;> first | (obtain rfl := AV.v.inj (Option.some.inj he); simp [AV.refs, AV.leaves, TV.leaves, Leaf.refs, undefAV] at hr'; done) | cases he
  | func f =>
    simp only [St.ev, Option.some.injEq] at he; obtain rfl := AV.v.inj he
    simp [AV.refs, AV.leaves, TV.leaves, Leaf.refs] at hr'
  | global g => cases he
theorem ref_rd {r : Nat} (h : r ∈ (tmpsOf o).flatMap fun t => (σ.slots.getD t undefAV).refs) (hq0 : quietMove o = false := by first | assumption | simp [quietMove, *]) : r ∈ rdOf o σ := by
  simp only [List.mem_flatMap] at h
  obtain ⟨t, ht, hr⟩ := h
  unfold rdOf
  rw [hq0, cond_false]
  cases lightOp o <;> simp only [cond_true, cond_false, List.mem_flatMap]
  · exact ⟨t, ht, r, hr, below_self r⟩
  · exact ⟨t, ht, hr⟩
theorem evT_ne {x : Operand} {l : Leaf} (h : σ.ev1 x = some l) (hr : l.refs ≠ []) : σ.evT x = some (.one l) := by
  unfold St.evT
  rw [ev1_ev h]
  split
  · rename_i e; simp at e; subst e; simp [Leaf.refs] at hr
  · rename_i e; simpa using e.symm
  · rename_i h1 h2; exact absurd rfl (h2 _)
theorem buildSlice_fx {t n : Nat} {parts : Array (Nat × Operand)} (hq0 : quietMove o = false) (hc : consOf E o σ = (tmpsOf o).flatMap fun t => (σ.slots.getD t undefAV).refs) (hx : ∀ p ∈ parts.toList, p.2 ∈ o.op.operands.toList) (hl : Loc o σ τ)
    (h : opBuildSlice E deep o t n parts σ = some (c, σ')) : ∃ τ', opBuildSlice E deep o t n parts τ = some (c, τ') ∧ Fx E o σ σ' τ τ' := by
  unfold opBuildSlice at h ⊢
  obtain ⟨f, hf, h⟩ := Option.bind_eq_some_iff.mp h
  simp only [hf, Option.bind_some]
  have heq : ∀ dp, elemsOf dp τ f 0 parts.toList = elemsOf dp σ f 0 parts.toList := fun dp => elemsOf_eq (σ := σ) (τ := τ) fun p hp => ⟨hl.evT (hx p hp), fun y hy r hr => hl.lkT (hx p hp) hy hr⟩
  rw [heq]
  split at h
  · rename_i q hq
    (try simp only [hq])
    generalize (Nat.beq q.1.length n && Nat.ble (n * f.size) 16777216) = b1 at h ⊢
    generalize distinct q.2 = b2 at h ⊢
    cases b1 <;> cases b2 <;> simp only [cond_true, cond_false] at h ⊢ <;> try (cases h; done)
    have hct : c = true := by
      obtain ⟨σ2, h2, h3⟩ := Option.bind_eq_some_iff.mp h
      exact (Prod.mk.inj (Option.some.inj h3)).1.symm
    subst hct
    exact freshFx hl (fun r hr => by rw [hc]; exact elemsOf_used (K := fun r => r ∈ (tmpsOf o).flatMap fun t => (σ.slots.getD t undefAV).refs) hq (fun p hp y hy r hr => ref_of (hx p hp) hy hr) r hr) (by rw [hc]; exact fun r hr => hl.look r (ref_rd hr)) h
  · rename_i hq
    (try simp only [hq])
    rw [heq]
    cases deep <;> simp only [cond_true, cond_false] at h ⊢
    · cases h
    obtain ⟨q, hq2, h⟩ := Option.bind_eq_some_iff.mp h
    rw [hq2]
    simp only [Option.bind_some]
    generalize (Nat.beq q.1.length n && Nat.ble (n * f.size) 16777216 && q.2.isEmpty) = b1 at h ⊢
    cases b1 <;> simp only [cond_true, cond_false] at h ⊢
    · cases h
    simp only [okS, Option.some.injEq, Prod.mk.injEq] at h
    obtain ⟨rfl, rfl⟩ := h
    refine ⟨_, rfl, ⟨_, rfl, rfl⟩, fun r hr => ?_, fun r _ => ⟨St.look_put .., St.look_put ..⟩, ⟨St.pins_put .., St.pins_put ..⟩⟩
    rw [St.look_put, St.look_put]
    rcases hr with hr | ⟨h1, h2⟩
    · rw [hc] at hr; exact hl.look r (ref_rd hr)
    · rw [St.look_put] at h2; exact absurd h1 h2
theorem store_fx {t : Nat} {a v : Operand} {r i k : Nat} {f : Kd} {ls : List Leaf} (hq0 : quietMove o = false) (hc : consOf E o σ = (tmpsOf o).flatMap fun t => (σ.slots.getD t undefAV).refs) (ha : a ∈ o.op.operands.toList) (hv : v ∈ o.op.operands.toList) (hl : Loc o σ τ)
    (hN : ∀ r, σ.look r = none → σ'.look r ≠ none → τ.look r = none) (hp : σ.ev1 a = some (.ptr r i k)) (hb : σ.look r = some (.box f ls)) (h : opStore E deep o t a v σ = some (c, σ')) : ∃ τ', opStore E deep o t a v τ = some (c, τ') ∧ Fx E o σ σ' τ τ' := by
  have hbτ : τ.look r = some (.box f ls) := by rw [hl.lk1 ha hp (by simp [Leaf.refs]), hb]
  have hrc : r ∈ consOf E o σ := by rw [hc]; exact ref_of ha (evT_ne hp (by simp [Leaf.refs])) (by simp [TV.leaves, Leaf.refs])
  unfold opStore at h ⊢
  rw [hl.ev1 ha, hl.evT hv, hp] at *
  split at h
  · rename_i ti r' i' k' x h1 h2 h3
    simp only [Option.some.injEq, Leaf.ptr.injEq] at h2
    obtain ⟨rfl, rfl, rfl⟩ := h2
    try simp only [h1, h3]
    cases hn : Nat.beq x.leaves.length ti.size <;> simp only [hn, cond_true, cond_false] at h ⊢
    · cases h
    rw [hb] at h
    rw [hbτ]
    simp only at h ⊢
    split at h
    · (try simp only)
      cases hm : Nat.ble (k + ti.size) ls.length <;> simp only [hm, cond_true, cond_false] at h ⊢
      · cases h
      cases hnl : isNil1 x <;> simp only [hnl, cond_true, cond_false] at h ⊢
      rotate_left
      · obtain ⟨g, hg, h⟩ := Option.bind_eq_some_iff.mp h
        rw [hg]
        obtain ⟨σ1, h4, h⟩ := Option.bind_eq_some_iff.mp h
        simp only [okS, Option.some.injEq, Prod.mk.injEq] at h
        obtain ⟨rfl, rfl⟩ := h
        obtain ⟨k1, k2, k3, k4, k5⟩ := addRows_look h4
        have hn0 := (k3 _ (List.mem_singleton_self _)).1
        have hrr : r ≠ nilKey a := by rintro rfl; rw [hb] at hn0; cases hn0
        obtain ⟨τ1, h5, h6⟩ := newFx (E := E) (τ := τ) (o := o) (K := []) (av := undefAV) (by simp) (by rw [hc]; exact fun r hr => hl.look r (ref_rd hr)) (h4 : (σ.kill []).addRows _ = _) fun p hp => by
          rw [(k3 p hp).1]
          refine hN p.1 (k3 p hp).1 ?_
          have := (k3 p hp).2
          simp only [List.mem_singleton] at hp
          subst hp
          rw [St.look_put, look_setRow, if_neg (fun e => hrr e.symm), this]; simp
        have h7 := h6.setUps (us := [(r, .box f (putAt ls k [.ow (nilKey a)]))]) (by
          intro q hq
          simp only [List.map_cons, List.map_nil, List.mem_singleton] at hq
          rw [hq]; exact hrc)
        refine ⟨_, ?_, h7⟩
        simp only [Option.bind_some]
        rw [show τ.addRows _ = some τ1 from h5]; rfl
      simp only [okS, Option.some.injEq, Prod.mk.injEq] at h
      obtain ⟨rfl, rfl⟩ := h
      refine ⟨_, rfl, ⟨undefAV, put_slots (σ := σ.setRow r (.box f (putAt ls k x.leaves))) (τ := σ) rfl _ _, put_slots (σ := τ.setRow r (.box f (putAt ls k x.leaves))) (τ := τ) rfl _ _⟩, fun q hq => ?_, fun q hq => ?_, ⟨St.pins_put .., St.pins_put ..⟩⟩
      · rw [St.look_put, St.look_put, look_setRow, look_setRow]
        split
        · rfl
        · rename_i hne
          rcases hq with hq | ⟨h4, h5⟩
          · rw [hc] at hq; exact hl.look q (ref_rd hq)
          · rw [St.look_put, look_setRow, if_neg hne] at h5; exact absurd h4 h5
      · have hne : q ≠ r := fun e => hq (.inl (by rw [e]; exact hrc))
        rw [St.look_put, St.look_put, look_setRow, look_setRow, if_neg hne, if_neg hne]
        exact ⟨rfl, rfl⟩
    · cases h
  · cases h
theorem srcOf_eq {f : Kd} {l : Leaf} (h : ∀ r ∈ l.refs, ∀ q ∈ σ.below r, τ.look q = σ.look q) : srcOf deep τ f l = srcOf deep σ f l := by
  unfold srcOf
  split
  · rfl
  · rfl
  · rename_i r
    rw [h r (by simp [Leaf.refs]) r (below_self r)]
  · rw [roLeaf_eq h]
theorem srcOf_used {f : Kd} {l : Leaf} {p : List f.T × List Nat} (h : srcOf deep σ f l = some p) : ∀ r ∈ p.2, r ∈ l.refs := by
  unfold srcOf at h
  split at h
  · obtain rfl := Option.some.inj h; simp
  · split at h
    · obtain rfl := Option.some.inj h; simp
    · cases h
  · split at h
    · split at h
      · obtain rfl := Option.some.inj h
        intro r hr
        generalize (deep && !f.flat) = b at hr
        cases b <;> simp [Leaf.refs] at hr ⊢
        exact hr
      · cases h
    · cases h
  · split at h
    · generalize (deep && !f.flat) = b at h
      cases b <;> simp only [cond_true, cond_false] at h
      · split at h
        · obtain rfl := Option.some.inj h; simp
        · cases h
      · cases h
    · cases h
theorem bind_pair {α : Type} {m : Option St} {b : Bool} (h : (m.bind fun σ' => some (b, σ')) = some (c, σ')) : c = b ∧ (m.bind fun σ' => some (c, σ')) = some (c, σ') := by
  obtain ⟨s, h1, h2⟩ := Option.bind_eq_some_iff.mp h
  obtain ⟨rfl, rfl⟩ := Prod.mk.inj (Option.some.inj h2)
  exact ⟨rfl, h⟩
theorem srcOf_used' {f : Kd} {l : Leaf} {p : List f.T × List Nat} (h : srcOf deep σ f l = some p) : ∀ r ∈ p.2, l = .ow r := by
  unfold srcOf at h
  split at h
  · obtain rfl := Option.some.inj h; simp
  · split at h
    · obtain rfl := Option.some.inj h; simp
    · cases h
  · split at h
    · split at h
      · obtain rfl := Option.some.inj h
        intro r hr
        generalize (deep && !f.flat) = b at hr
        cases b <;> simp at hr ⊢
        exact hr.symm
      · cases h
    · cases h
  · split at h
    · generalize (deep && !f.flat) = b at h
      cases b <;> simp only [cond_true, cond_false] at h
      · split at h
        · obtain rfl := Option.some.inj h; simp
        · cases h
      · cases h
    · cases h
/-- a slice taken out of its cell, used up for a new row -/
theorem takeFx {n r i cc : Nat} {σ1 : St} (hr : r ∈ consOf E o σ) (hcr : ∀ r ∈ consOf E o σ, τ.look r = σ.look r) (hl : Loc o σ τ) (h1 : σ.takePa n r i cc = some σ1) (hn : τ.look n = none) :
    ∃ τ1, τ.takePa n r i cc = some τ1 ∧ (∀ q, τ.look q = σ.look q ∨ q = n → τ1.look q = σ1.look q) ∧ σ1.look n ≠ none ∧ (∀ q, q ≠ n → q ≠ r → σ1.look q = σ.look q) ∧ (∀ q ∈ σ1.below r, q = n ∨ q = r) ∧
      ∀ {f : Kd} {xs : List f.T} {K : List Nat} {c : Bool}, (∀ q ∈ K, q = n ∨ q ∈ consOf E o σ) → (((σ1.kill K).fresh o 0 f xs).bind fun σ' => some (c, σ')) = some (c, σ') →
        ∃ τ', (((τ1.kill K).fresh o 0 f xs).bind fun σ' => some (c, σ')) = some (c, τ') ∧ Fx E o σ σ' τ τ' := by
  unfold St.takePa at h1 ⊢
  rw [hcr r hr, hn]
  split at h1
  · rename_i g zs hrow hnn
    obtain ⟨p, hp, rfl⟩ := Option.map_eq_some_iff.mp h1
    have hrn : r ≠ n := by rintro rfl; rw [hrow] at hnn; cases hnn
    refine ⟨_, by rw [hrow]; simp only [hp]; rfl, fun q hq => ?_, by rw [look_setRow, if_pos rfl]; simp, fun q hqn hqr => by rw [look_setRow, if_neg hqn, look_setRow, if_neg hqr], fun q hq => ?_, fun {f xs K c} hK h => ?_⟩
    · rw [look_setRow, look_setRow, look_setRow, look_setRow]
      split
      · rfl
      · split
        · rfl
        · exact hq.resolve_right (by assumption)
    · unfold St.below at hq
      rw [look_setRow, if_neg hrn, look_setRow, if_pos rfl] at hq
      simp only [ARow.refs, List.mem_cons, List.not_mem_nil, or_false] at hq
      exact hq.symm
    · have hlk : ∀ (ρ : St) q, ((ρ.setRow r (.hol g zs i cc n)).setRow n (.data p.1 p.2)).look q = if q = n then some (.data p.1 p.2) else if q = r then some (.hol g zs i cc n) else ρ.look q := fun ρ q => by rw [look_setRow, look_setRow]
      have hsm : ∀ q, τ.look q = σ.look q → (((τ.setRow r (.hol g zs i cc n)).setRow n (.data p.1 p.2)).kill K).look q = (((σ.setRow r (.hol g zs i cc n)).setRow n (.data p.1 p.2)).kill K).look q := fun q hq => by
        refine look_kill' ?_
        rw [hlk, hlk, hq]
      obtain ⟨σ2, h2, h3⟩ := Option.bind_eq_some_iff.mp h
      obtain ⟨_, rfl⟩ := Prod.mk.inj (Option.some.inj h3)
      obtain ⟨σ3, h4, rfl⟩ := fresh_new h2
      have hfk : ((((τ.setRow r (.hol g zs i cc n)).setRow n (.data p.1 p.2)).kill K)).freeKey o.dst 0 = ((((σ.setRow r (.hol g zs i cc n)).setRow n (.data p.1 p.2)).kill K)).freeKey o.dst 0 :=
        freeKey_eq fun k hk => hsm k (hl.key k hk)
      have hfm := freeKey_mem (σ := (((σ.setRow r (.hol g zs i cc n)).setRow n (.data p.1 p.2)).kill K)) o.dst
      generalize hk0 : (((σ.setRow r (.hol g zs i cc n)).setRow n (.data p.1 p.2)).kill K).freeKey o.dst 0 = k0 at h4 hfk hfm
      obtain ⟨k1, k2, k3, k4, k5⟩ := addRows_look h4
      have h0 := (k3 _ (List.mem_singleton_self _)).1
      simp only at h0
      have h0τ : (((τ.setRow r (.hol g zs i cc n)).setRow n (.data p.1 p.2)).kill K).look k0 = none := by rw [hsm k0 (hl.key k0 hfm)]; exact h0
      obtain ⟨τ3, h5⟩ : ∃ τ3, (((τ.setRow r (.hol g zs i cc n)).setRow n (.data p.1 p.2)).kill K).addRows [(k0, .data f xs)] = some τ3 := by
        simp only [St.addRows, h0τ]; exact ⟨_, rfl⟩
      obtain ⟨m1, m2, m3, m4, m5⟩ := addRows_look h5
      have hkn : k0 ≠ n ∧ k0 ≠ r ∧ k0 ∉ K ∧ σ.look k0 = none := by
        rw [look_kill] at h0
        split at h0
        · cases h0
        rename_i hnk
        rw [hlk] at h0
        split at h0
        · cases h0
        rename_i a1
        split at h0
        · cases h0
        rename_i a2
        exact ⟨a1, a2, hnk, h0⟩
      have hσ : ∀ q, σ3.look q = if q = k0 then some (.data f xs) else if q ∈ K then some .dead else if q = n then some (.data p.1 p.2) else if q = r then some (.hol g zs i cc n) else σ.look q := fun q => by
        by_cases e : q = k0
        · subst e; rw [if_pos rfl]; exact (k3 _ (List.mem_singleton_self _)).2
        · rw [if_neg e, k4 q (by simp; exact fun h => e h.symm), look_kill, hlk]
      have hτ : ∀ q, τ3.look q = if q = k0 then some (.data f xs) else if q ∈ K then some .dead else if q = n then some (.data p.1 p.2) else if q = r then some (.hol g zs i cc n) else τ.look q := fun q => by
        by_cases e : q = k0
        · subst e; rw [if_pos rfl]; exact (m3 _ (List.mem_singleton_self _)).2
        · rw [if_neg e, m4 q (by simp; exact fun h => e h.symm), look_kill, hlk]
      refine ⟨τ3.put o.dst (.v (.one (.ow k0))), by unfold St.fresh; rw [hfk, h5]; rfl, ⟨.v (.one (.ow k0)), put_slots (σ := σ3) (τ := σ) k1 _ _, put_slots (σ := τ3) (τ := τ) m1 _ _⟩, fun q hq => ?_, fun q hq => ?_, ⟨by rw [St.pins_put, k2]; rfl, by rw [St.pins_put, m2]; rfl⟩⟩
      · rw [St.look_put, St.look_put, hσ, hτ]
        split
        · rfl
        split
        · rfl
        split
        · rfl
        split
        · rfl
        rename_i b1 b2 b3 b4
        rcases hq with hq | ⟨c1, c2⟩
        · exact hcr q hq
        · rw [St.look_put, hσ, if_neg b1, if_neg b2, if_neg b3, if_neg b4] at c2
          exact absurd c1 c2
      · have hqr : q ≠ r := fun e => hq (.inl (by rw [e]; exact hr))
        have hqn : q ≠ n := by
          rintro rfl
          refine hq (.inr ⟨hnn, ?_⟩)
          rw [St.look_put, hσ, if_neg (fun e => hkn.1 e.symm)]
          split <;> simp
        have hqk : q ≠ k0 := by
          rintro rfl
          refine hq (.inr ⟨hkn.2.2.2, ?_⟩)
          rw [St.look_put, hσ, if_pos rfl]; simp
        have hqK : q ∉ K := fun hm => (hK q hm).elim hqn fun hc => hq (.inl hc)
        rw [St.look_put, St.look_put, hσ, hτ, if_neg hqk, if_neg hqk, if_neg hqK, if_neg hqK, if_neg hqn, if_neg hqn, if_neg hqr, if_neg hqr]
        exact ⟨rfl, rfl⟩
  · cases h1
/-- a slice taken out of its cell -/
theorem takeOnlyFx {n r i cc : Nat} {σ1 : St} (hr : r ∈ consOf E o σ) (hcr : ∀ r ∈ consOf E o σ, τ.look r = σ.look r) (h1 : σ.takePa n r i cc = some σ1) (hn : τ.look n = none) :
    ∃ τ1, τ.takePa n r i cc = some τ1 ∧ τ1.look n = σ1.look n ∧ σ1.slots = σ.slots ∧ τ1.slots = τ.slots ∧ ∀ av, Fx E o σ (σ1.put o.dst av) τ (τ1.put o.dst av) := by
  unfold St.takePa at h1 ⊢
  rw [hcr r hr, hn]
  split at h1
  · rename_i g zs hrow hnn
    obtain ⟨p, hp, rfl⟩ := Option.map_eq_some_iff.mp h1
    have hrn : r ≠ n := by rintro rfl; rw [hrow] at hnn; cases hnn
    have hlk : ∀ (ρ : St) q, ((ρ.setRow r (.hol g zs i cc n)).setRow n (.data p.1 p.2)).look q = if q = n then some (.data p.1 p.2) else if q = r then some (.hol g zs i cc n) else ρ.look q := fun ρ q => by rw [look_setRow, look_setRow]
    refine ⟨(τ.setRow r (.hol g zs i cc n)).setRow n (.data p.1 p.2), by rw [hrow]; simp only [hp]; rfl, by rw [hlk, hlk, if_pos rfl, if_pos rfl], rfl, rfl, fun av => ⟨⟨av, put_slots (σ := (σ.setRow r (.hol g zs i cc n)).setRow n (.data p.1 p.2)) (τ := σ) rfl _ _, put_slots (σ := (τ.setRow r (.hol g zs i cc n)).setRow n (.data p.1 p.2)) (τ := τ) rfl _ _⟩, fun q hq => ?_, fun q hq => ?_, ⟨St.pins_put .., St.pins_put ..⟩⟩⟩
    · rw [St.look_put, St.look_put, hlk, hlk]
      split
      · rfl
      split
      · rfl
      rename_i b1 b2
      rcases hq with hq | ⟨c1, c2⟩
      · exact hcr q hq
      · rw [St.look_put, hlk, if_neg b1, if_neg b2] at c2; exact absurd c1 c2
    · have hqr : q ≠ r := fun e => hq (.inl (by rw [e]; exact hr))
      have hqn : q ≠ n := by
        rintro rfl
        refine hq (.inr ⟨hnn, ?_⟩)
        rw [St.look_put, hlk, if_pos rfl]; simp
      rw [St.look_put, St.look_put, hlk, hlk, if_neg hqn, if_neg hqn, if_neg hqr, if_neg hqr]
      exact ⟨rfl, rfl⟩
  · cases h1
theorem indexAddr_fx {t : Nat} {x i : Operand} (hop : o.op = .indexAddr t x i) (hl : Loc o σ τ) (hN : ∀ r, σ.look r = none → σ'.look r ≠ none → τ.look r = none)
    (h : opIndexAddr E deep o t x i σ = some (c, σ')) : ∃ τ', opIndexAddr E deep o t x i τ = some (c, τ') ∧ Fx E o σ σ' τ τ' := by
  have hq0 : quietMove o = false := by simp [quietMove, hop]
  have hx : x ∈ o.op.operands.toList := by simp [hop, Op.operands]
  have hi : i ∈ o.op.operands.toList := by simp [hop, Op.operands]
  unfold opIndexAddr at h ⊢
  rw [hl.ev1 hx]
  split at h
  · rename_i r j cc he
    have hc : consOf E o σ = [r] := by simp [consOf, hop, he]
    cases deep <;> simp only [cond_true, cond_false] at h ⊢
    · cases h
    split at h
    · rename_i σ1 h1
      have hnn : σ.look (key o.dst 50) = none := by
        unfold St.takePa at h1
        split at h1
        · assumption
        · cases h1
      unfold idxRow at h
      split at h
      · rename_i k n f xs hi1 hr1
        cases hb : E.isEl t f <;> simp only [hb, cond_true, cond_false] at h
        · cases h
        obtain ⟨rfl, rfl⟩ := Prod.mk.inj (Option.some.inj h)
        obtain ⟨τ1, t1, t2, t3, t4, t5⟩ := takeOnlyFx (E := E) (by rw [hc]; simp) (by rw [hc]; intro q hq; rw [List.mem_singleton.mp hq]; exact hl.lk1 hx he (by simp [Leaf.refs])) h1 (hN _ hnn (by rw [St.look_put, hr1]; simp))
        have hi2 : τ1.ev1 i = some (.int k n) := by
          have e1 : τ.ev1 i = σ.ev1 i := hl.ev1 hi
          have e2 : σ1.ev1 i = σ.ev1 i := by cases i <;> simp [St.ev1, St.ev, t3]
          have e3 : τ1.ev1 i = τ.ev1 i := by cases i <;> simp [St.ev1, St.ev, t4]
          rw [e3, e1, ← e2, hi1]
        rw [t1]
        refine ⟨_, ?_, t5 _⟩
        simp only [idxRow, hi2, t2, hr1, hb, cond_true]
      · cases h
    · cases h
  · rename_i hno
    have hc : consOf E o σ = [] := by
      simp only [consOf, hop]
      try
        split
        · rename_i r j cc he; exact absurd he (hno r j cc)
        · rfl
    refine Quiet.fx (f := fun τ => opIndexAddr0 E o t x i τ) hc (indexAddr_q (hl.ev1 hx) (hl.ev1 hi) (fun l h r hr => hl.lk1 hx h hr) h)
theorem append_fx {t u : Nat} {x y : Operand} {cl : Call} (hop : o.op = .call cl) (hcal : cl.callee = .builtin .append) (hargs : cl.args.toList = [x, y]) (hx : x ∈ o.op.operands.toList) (hy : y ∈ o.op.operands.toList) (hl : Loc o σ τ) (hN : ∀ r, σ.look r = none → σ'.look r ≠ none → τ.look r = none)
    (h : opAppend E deep o t u x y σ = some (c, σ')) : ∃ τ', opAppend E deep o t u x y τ = some (c, τ') ∧ Fx E o σ σ' τ τ' := by
  have hqm : quietMove o = false := by simp [quietMove, hop]
  have hq1 : lightOp o = false := by simp [lightOp, hop]
  have hc : ∀ d s, σ.ev1 x = some d → σ.ev1 y = some s → consOf E o σ = d.refs ++ (match s with | .ow r => [r] | _ => []) := by
    intro d s h1 h2
    simp only [consOf, hop, hcal, hargs, h1, h2]
    cases s <;> rfl
  have hcr : ∀ d s, σ.ev1 x = some d → σ.ev1 y = some s → ∀ r ∈ consOf E o σ, τ.look r = σ.look r := by
    intro d s h1 h2 r hr
    rw [hc d s h1 h2] at hr
    rcases List.mem_append.mp hr with hr | hr
    · exact hl.lk1 hx h1 hr
    · refine hl.lk1 hy h2 ?_
      cases s <;> simp at hr
      subst hr; simp [Leaf.refs]
  unfold opAppend at h ⊢
  rw [hl.ev1 hx, hl.ev1 hy]
  cases hb : E.isSl u || E.isStr u <;> simp only [hb, cond_true, cond_false] at h ⊢
  · cases h
  split at h
  · rename_i e d s h1 h2 h3
    try simp only [h1, h2, h3]
    have hcr := hcr d s h2 h3
    have hc := hc d s h2 h3
    have hq2 : ∀ {dp : Bool} {ρ : St} {q : List e.1.T × List Nat}, srcOf dp ρ e.1 s = some q → ∀ r ∈ q.2, r ∈ consOf E o σ := fun hq r hr => by
      have e := srcOf_used' hq r hr
      rw [hc, e]; simp
    have hsrc := srcOf_eq (deep := deep) (f := e.1) (σ := σ) (τ := τ) (l := s) fun r hr p hp => hl.lkb hy (ev1_ev h3) (by simpa [AV.refs, AV.leaves, TV.leaves] using hr) hp
    cases d <;> simp only at h ⊢ <;> try (cases h; done)
    · obtain ⟨q, hq, h⟩ := Option.bind_eq_some_iff.mp h
      rw [hsrc, hq]
      simp only [Option.bind_some]
      generalize hbb : distinct q.2 = b at h ⊢
      cases b <;> simp only [cond_true, cond_false] at h ⊢
      · cases h
      obtain ⟨rfl, h⟩ := bind_pair (α := Unit) h
      exact freshFx hl (hq2 hq) hcr h
    · rename_i r
      obtain ⟨q, hq, h⟩ := Option.bind_eq_some_iff.mp h
      rw [hsrc, hq]
      simp only [Option.bind_some]
      rw [hl.lk1 hx h2 (by simp [Leaf.refs])]
      split at h
      · rename_i g xs hr
        (try simp only [hr])
        split at h
        · rename_i hg
          rw [dif_pos hg]
          generalize distinct (r :: q.2) = b at h ⊢
          cases b <;> simp only [cond_true, cond_false] at h ⊢
          · cases h
          obtain ⟨rfl, h⟩ := bind_pair (α := Unit) h
          refine freshFx hl (fun r' hr' => ?_) hcr h
          rcases List.mem_cons.mp hr' with rfl | hr'
          · rw [hc]; simp [Leaf.refs]
          · exact hq2 hq r' hr'
        · cases h
      · cases h
    · rename_i r i cc
      cases hd : deep <;> simp only [hd, cond_true, cond_false] at h ⊢
      · cases h
      split at h
      · rename_i σ1 h1
        have hrc : r ∈ consOf E o σ := by rw [hc]; simp [Leaf.refs]
        have hnn : σ.look (key o.dst 50) = none := by
          unfold St.takePa at h1
          split at h1
          · assumption
          · cases h1
        -- the row that is taken stays behind, used up
        have hne : σ'.look (key o.dst 50) ≠ none := by
          obtain ⟨q, hq, h⟩ := Option.bind_eq_some_iff.mp h
          split at h
          · split at h
            · generalize distinct (key o.dst 50 :: q.2) = b at h
              cases b <;> simp only [cond_true, cond_false] at h
              · cases h
              obtain ⟨rfl, h⟩ := bind_pair (α := Unit) h
              obtain ⟨σ2, h2, h3⟩ := Option.bind_eq_some_iff.mp h
              obtain ⟨_, rfl⟩ := Prod.mk.inj (Option.some.inj h3)
              obtain ⟨σ3, h4, rfl⟩ := fresh_new h2
              obtain ⟨k1, k2, k3, k4, k5⟩ := addRows_look h4
              rw [St.look_put, k5 (key o.dst 50) .dead (by rw [look_kill, if_pos (List.mem_cons_self ..)])]
              simp
            · cases h
          · cases h
        obtain ⟨τ1, t1, t2, t3, t4, t6, t5⟩ := takeFx (σ' := σ') hrc hcr hl h1 (hN _ hnn hne)
        rw [t1]
        simp only
        have hsr : ∀ r' ∈ s.refs, τ.look r' = σ.look r' := fun r' hr' => hl.lk1 hy h3 hr'
        rw [srcOf_eq (deep := true) (f := e.1) (σ := σ1) (τ := τ1) (l := s) fun r' hr' p hp => by
          by_cases e1 : r' = r
          · subst e1
            rcases t6 p hp with e | e
            · exact t2 p (.inr e)
            · exact t2 p (.inl (by rw [e]; exact hsr _ hr'))
          · by_cases e2 : r' = key o.dst 50
            · have : σ1.below r' = [r'] := by
                unfold St.below
                rw [e2]
                unfold St.takePa at h1
                split at h1
                · obtain ⟨z, _, rfl⟩ := Option.map_eq_some_iff.mp h1
                  rw [look_setRow, if_pos rfl]; rfl
                · cases h1
              rw [this] at hp
              rw [List.mem_singleton.mp hp]
              exact t2 r' (.inr e2)
            · have : σ1.below r' = σ.below r' := by unfold St.below; rw [t4 r' e2 e1]
              rw [this] at hp
              exact t2 p (.inl (hl.lkb hy (ev1_ev h3) (by simpa [AV.refs, AV.leaves, TV.leaves] using hr') hp))]
        obtain ⟨q, hq, h⟩ := Option.bind_eq_some_iff.mp h
        rw [hq]
        simp only [Option.bind_some]
        rw [t2 _ (.inr rfl)]
        split at h
        · rename_i g xs hr
          (try simp only [hr])
          split at h
          · rename_i hg
            rw [dif_pos hg]
            generalize distinct (key o.dst 50 :: q.2) = b at h ⊢
            cases b <;> simp only [cond_true, cond_false] at h ⊢
            · cases h
            obtain ⟨rfl, h⟩ := bind_pair (α := Unit) h
            refine t5 (fun q' hq' => ?_) h
            rcases List.mem_cons.mp hq' with e | hq'
            · exact .inl e
            · exact .inr (hq2 hq q' hq')
          · cases h
        · cases h
      · cases h
  · cases h
theorem addRows_app : ∀ (a b : List (Nat × ARow)) (σ : St), σ.addRows (a ++ b) = (σ.addRows a).bind fun σ1 => σ1.addRows b
  | [], b, σ => by simp [St.addRows]
  | (r, row) :: a, b, σ => by
    simp only [List.cons_append, St.addRows]
    cases σ.look r with
    | none => exact addRows_app a b _
    | some _ => rfl
theorem alloc_fx {e : Nat} (hc : consOf E o σ = []) (hN : ∀ r, σ.look r = none → σ'.look r ≠ none → τ.look r = none)
    (h : opAlloc E o e σ = some (c, σ')) : ∃ τ', opAlloc E o e τ = some (c, τ') ∧ Fx E o σ σ' τ τ' := by
  unfold opAlloc at h ⊢
  obtain ⟨i, hi, h⟩ := Option.bind_eq_some_iff.mp h
  rw [hi, Option.bind_some]
  obtain ⟨σ1, h1, h⟩ := Option.bind_eq_some_iff.mp h
  obtain ⟨σ2, h2, h⟩ := Option.bind_eq_some_iff.mp h
  simp only [St.put1, okS, Option.some.injEq, Prod.mk.injEq] at h
  obtain ⟨rfl, rfl⟩ := h
  have h3 : (σ.kill []).addRows (zeroRows o.dst i.kd 0 ++ [(key o.dst 0, ARow.box i.kd (zeroLeaves o.dst i.kd 0))]) = some σ2 := by
    rw [addRows_app]
    show (σ.addRows _).bind _ = _
    rw [h1]; exact h2
  obtain ⟨k1, k2, k3, k4, k5⟩ := addRows_look h3
  obtain ⟨τ1, h4, h5⟩ := newFx (E := E) (τ := τ) (o := o) (K := []) (av := (.v (.one (.ptr (key o.dst 0) 0 0)))) (fun r hr => by simp at hr) (by rw [hc]; simp) h3 fun p hp => by
    have h0 : σ.look p.1 = none := (k3 p hp).1
    rw [h0]
    refine hN p.1 h0 ?_
    rw [St.look_put, (k3 p hp).2]; simp
  have h6 : (τ.addRows (zeroRows o.dst i.kd 0)).bind (fun σ1 => σ1.addRows [(key o.dst 0, ARow.box i.kd (zeroLeaves o.dst i.kd 0))]) = some τ1 := by
    rw [← addRows_app]; exact h4
  obtain ⟨τ0, h7, h8⟩ := Option.bind_eq_some_iff.mp h6
  exact ⟨_, by rw [h7, Option.bind_some, h8, Option.bind_some]; rfl, h5⟩
/-! ### calls -/
theorem odLeaf_eq {l : Leaf} (h : ∀ r ∈ l.refs, τ.look r = σ.look r) : odLeaf deep τ l = odLeaf deep σ l := by
  cases l <;> simp only [odLeaf]
  rename_i r
  rw [h r (by simp [Leaf.refs])]
theorem mapM_eq {f g : Leaf → Option Leaf} : ∀ {ls : List Leaf}, (∀ l ∈ ls, f l = g l) → ls.mapM f = ls.mapM g
  | [], _ => rfl
  | l :: ls, h => by rw [List.mapM_cons, List.mapM_cons, h l (List.mem_cons_self ..), mapM_eq fun l' hl => h l' (List.mem_cons_of_mem _ hl)]
theorem tvMapM_eq {f g : Leaf → Option Leaf} {y : TV} (h : ∀ l ∈ y.leaves, f l = g l) : y.mapM f = y.mapM g := by
  cases y with
  | one l => simp only [TV.mapM]; rw [h l (by simp [TV.leaves])]
  | agg ls => simp only [TV.mapM]; rw [mapM_eq (ls := ls) h]
theorem argsOf_eq {ms : List Md} : ∀ {xs : List Operand} {i : Nat}, (∀ x ∈ xs, τ.ev x = σ.ev x ∧ ∀ a, σ.ev x = some a → ∀ r ∈ a.refs, ∀ q ∈ σ.below r, τ.look q = σ.look q) →
    argsOf deep τ ms i xs = argsOf deep σ ms i xs ∧ ownRefs τ ms i xs = ownRefs σ ms i xs ∧ roRefs τ ms i xs = roRefs σ ms i xs ∧ ioRows τ ms i xs = ioRows σ ms i xs ∧ ∀ r ∈ ioRows σ ms i xs, τ.look r.1 = σ.look r.1
  | [], _, _ => ⟨rfl, rfl, rfl, rfl, fun r h => by simp [ioRows] at h⟩
  | x :: xs, i, h => by
    obtain ⟨h1, h2⟩ := h x (List.mem_cons_self ..)
    obtain ⟨k1, k2, k3, k4, k5⟩ := argsOf_eq (ms := ms) (i := i + 1) fun x hx => h x (List.mem_cons_of_mem _ hx)
    have hT : τ.evT x = σ.evT x := by unfold St.evT; rw [h1]
    have h1' : τ.ev1 x = σ.ev1 x := by unfold St.ev1; rw [h1]
    have hbel : ∀ a, σ.ev x = some a → a.refs.flatMap τ.below = a.refs.flatMap σ.below := by
      intro a hx
      have hb : ∀ r ∈ a.refs, τ.below r = σ.below r := fun r hr => by unfold St.below; rw [h2 a hx r hr r (below_self r)]
      generalize a.refs = rs at hb
      induction rs with
      | nil => rfl
      | cons r t ih => rw [List.flatMap_cons, List.flatMap_cons, hb r (List.mem_cons_self ..), ih fun r hr => hb r (List.mem_cons_of_mem _ hr)]
    have hod : ((τ.evT x).bind (TV.mapM (odLeaf deep τ))) = (σ.evT x).bind (TV.mapM (odLeaf deep σ)) := by
      rw [hT]
      cases hy : σ.evT x with
      | none => rfl
      | some y =>
        simp only [Option.bind_some]
        exact tvMapM_eq fun l hl => odLeaf_eq fun r hr => h2 _ (evT_ev hy) r (by simp only [AV.refs, AV.leaves, List.mem_flatMap]; exact ⟨l, hl, hr⟩) r (below_self r)
    have hiod : ((τ.evT x).bind (TV.mapM (ioLeaf deep τ))) = (σ.evT x).bind (TV.mapM (ioLeaf deep σ)) := by
      rw [hT]
      cases hy : σ.evT x with
      | none => rfl
      | some y =>
        simp only [Option.bind_some]
        refine tvMapM_eq fun l hl => ?_
        have hlk : ∀ r ∈ l.refs, τ.look r = σ.look r := fun r hr => h2 _ (evT_ev hy) r (by simp only [AV.refs, AV.leaves, List.mem_flatMap]; exact ⟨l, hl, hr⟩) r (below_self r)
        cases l <;> first
          | (simp only [ioLeaf]; rw [hlk _ (by simp [Leaf.refs])]; done)
          | exact odLeaf_eq (deep := deep) hlk
    refine ⟨?_, ?_, ?_, ?_, ?_⟩
    · simp only [argsOf]
      rw [k1]
      congr 1
      cases modeAt ms i <;> simp only [argOf]
      · rw [hT]
        cases hy : σ.evT x with
        | none => rfl
        | some y =>
          simp only [Option.bind_some]
          exact tvMapM_eq fun l hl => roLeaf_eq fun r hr q hq => h2 _ (evT_ev hy) r (by simp only [AV.refs, AV.leaves, List.mem_flatMap]; exact ⟨l, hl, hr⟩) q hq
      · exact hod
      · exact hiod
      · rw [h1']
        split
        · rename_i r hx
          have hev := ev1_ev' hx
          have hin : r ∈ (AV.v (.one (.ptr r 0 0))).refs := by simp [AV.refs, AV.leaves, TV.leaves, Leaf.refs]
          rw [h2 _ hev r hin r (below_self r)]
          split
          · rename_i g ls hr
            have : ls.mapM (odLeaf deep τ) = ls.mapM (odLeaf deep σ) := mapM_eq fun l hl => odLeaf_eq fun q hq => h2 _ hev r hin q (by
              unfold St.below; rw [hr]
              simp only [List.mem_cons, ARow.refs, List.mem_flatMap]
              exact .inr ⟨l, hl, hq⟩)
            rw [this]
          · rfl
        · rfl
    · simp only [ownRefs]; rw [k2, h1]
      congr 1
      cases modeAt ms i <;> cases hx : σ.ev x <;> first | rfl | exact hbel _ hx
    · simp only [roRefs]
      rw [k3, h1]
      congr 1
      cases modeAt ms i <;> cases hx : σ.ev x <;> first | rfl | exact hbel _ hx
    · simp only [ioRows]; rw [k4, h1]
    · intro r hr
      simp only [ioRows, List.mem_append] at hr
      rcases hr with hr | hr
      · cases hm : modeAt ms i <;> cases hx : σ.ev x <;> rw [hm, hx] at hr <;> simp at hr
        · obtain ⟨l, hl, hr⟩ := hr
          refine h2 _ hx r.1 ?_ r.1 (below_self r.1)
          have : r.1 ∈ (l.refs) := by
            have hm : r.1 ∈ ([l].flatMap ioPart).map (·.1) := List.mem_map.mpr ⟨r, by simpa using hr, rfl⟩
            rw [ioPart_fst] at hm
            simpa using hm
          simp only [AV.refs, List.mem_flatMap]
          exact ⟨l, hl, this⟩
        · obtain ⟨q, hq, rfl⟩ := hr
          exact h2 _ hx q hq q (below_self q)
      · exact k5 r hr
theorem instLeaves_sh (dst : Option Nat) : ∀ (ls : List Leaf) (j : Nat), hasSh (instLeaves dst j ls).1 = hasSh ls
  | [], _ => rfl
  | l :: t, j => by cases l <;> simp [instLeaves, hasSh, instLeaves_sh dst t]
theorem freeze_len : ∀ {rs : List Nat} {σ σ' : St}, σ.freeze rs = some σ' → σ'.slots.length = σ.slots.length
  | [], σ, σ', h => by simp only [St.freeze, Option.some.injEq] at h; rw [h]
  | r :: rs, σ, σ', h => by
    simp only [St.freeze] at h
    split at h
    · rw [freeze_len h, slots_kill]; simp [St.map]
    · exact freeze_len h
    · cases h
theorem call_fx {C : CF} (hC : CFdet C) {cl : Call} {x : Operand} {g : Nat} {cs : List Cap} {d : Nat} (hop : o.op = .call cl) (hcal : cl.callee = .value x) (hg : σ.ev1 x = some (.clo g cs)) (hd : o.dst = some d)
    (hfz : (roRefs σ (E.sig g).modes 0 cl.args.toList = []) ∨ (hasSh (σ'.slots.getD d undefAV).leaves = false ∧ ioRows σ (E.sig g).modes 0 cl.args.toList = [])) (hbox : ∀ r ∈ ioRows σ (E.sig g).modes 0 cl.args.toList, isBox σ r.1 = true) (hrb : (E.sig g).rbx = none) (hdl : d < σ.slots.length) (hl : Loc o σ τ) (hN : ∀ r, σ.look r = none → σ'.look r ≠ none → τ.look r = none)
    (h : evalCall E C deep o cl σ some = some σ') : ∃ τ', evalCall E C deep o cl τ some = some τ' ∧ Fx E o σ σ' τ τ' := by
  have hq0 : quietMove o = false := by simp [quietMove, hop]
  have hq1 : lightOp o = false := by simp [lightOp, hop]
  have hops : o.op.operands.toList = x :: cl.args.toList := by rw [hop]; simp [Op.operands, Call.operands, hcal]
  have hxm : x ∈ o.op.operands.toList := by rw [hops]; exact List.mem_cons_self ..
  have hcons : consOf E o σ = ownRefs σ (E.sig g).modes 0 cl.args.toList := by simp only [consOf, hop, hcal, hg]
  obtain ⟨a1, a2, a3, a4, a5⟩ := argsOf_eq (deep := deep) (ms := (E.sig g).modes) (i := 0) (σ := σ) (τ := τ) (xs := cl.args.toList) fun y hy => ⟨hl.ev y (by rw [hops]; exact List.mem_cons_of_mem _ hy), fun a ha r hr q hq => hl.lkb (by rw [hops]; exact List.mem_cons_of_mem _ hy) ha hr hq⟩
  have hcr : ∀ r ∈ consOf E o σ, τ.look r = σ.look r := by
    intro r hr
    rw [hcons] at hr
    have : ∀ (xs : List Operand) (i : Nat), (∀ y ∈ xs, y ∈ o.op.operands.toList) → r ∈ ownRefs σ (E.sig g).modes i xs → τ.look r = σ.look r := by
      intro xs
      induction xs with
      | nil => intro i _ h; simp [ownRefs] at h
      | cons y ys ih =>
        intro i hm h
        simp only [ownRefs, List.mem_append] at h
        rcases h with h | h
        · cases hmd : modeAt (E.sig g).modes i <;> cases hev : σ.ev y <;> rw [hmd, hev] at h <;> simp at h
          · exact hl.lk (hm y (List.mem_cons_self ..)) hev h
          · exact hl.lk (hm y (List.mem_cons_self ..)) hev h
          · obtain ⟨q, hq, h⟩ := h
            exact hl.lkb (hm y (List.mem_cons_self ..)) hev hq h
        · exact ih (i + 1) (fun z hz => hm z (List.mem_cons_of_mem _ hz)) h
    exact this _ 0 (fun y hy => by rw [hops]; exact List.mem_cons_of_mem _ hy) hr
  unfold evalCall at h ⊢
  simp only [hcal] at h ⊢
  rw [hl.ev1 hxm, hg] at *
  simp only at h ⊢
  split at h
  · rename_i more hmore
    try simp only [hmore]
    unfold callG at h ⊢
    rw [a1, a2, a3, a4]
    rw [hrb] at h ⊢
    split at h
    · rename_i as has
      try simp only [has]
      generalize hro : roRefs σ (E.sig g).modes 0 cl.args.toList = ro at h hfz ⊢
      generalize hown : ownRefs σ (E.sig g).modes 0 cl.args.toList = own at h ⊢
      have hiosub : ∀ r ∈ (ioRows σ (E.sig g).modes 0 cl.args.toList).map (·.1), r ∈ own := by rw [← hown]; exact (own_live has).2.1
      generalize hio : ioRows σ (E.sig g).modes 0 cl.args.toList = ios at h hfz hbox hiosub a5 ⊢
      generalize (distinct own && apartL ro own && Nat.ble (E.sig g).modes.length cl.args.toList.length) = b at h ⊢
      cases b <;> simp only [cond_true, cond_false] at h ⊢
      · cases h
      rw [hC St] at h ⊢
      obtain ⟨out, hout, h⟩ := Option.bind_eq_some_iff.mp h
      rw [hout]
      simp only [Option.bind_some]
      rw [hd] at h ⊢
      split at h
      · rename_i σ2 hf
        obtain rfl := Option.some.inj h
        unfold finCall at hf
        obtain ⟨σ1, h1, hf⟩ := Option.bind_eq_some_iff.mp hf
        cases ios with
        | nil =>
          simp only at hf
          obtain ⟨σ3, h3, hf⟩ := Option.bind_eq_some_iff.mp hf
          obtain rfl := Option.some.inj hf
          have hfz' : (bif hasSh out.leaves then σ.freeze ro else some σ) = some σ ∧ (bif hasSh out.leaves then τ.freeze ro else some τ) = some τ := by
            cases hsh : hasSh out.leaves
            · exact ⟨rfl, rfl⟩
            · rcases hfz with hz | ⟨hz, _⟩
              · rw [hz]; exact ⟨rfl, rfl⟩
              · exfalso
                rw [hsh, cond_true] at h1
                have h5 := freeze_len h1
                have h6 := (addRows_look h3).1
                have e : ((σ3.put (some d) (instAV (some d) out).1).slots.getD d undefAV) = (instAV (some d) out).1 := by
                  simp only [St.put, List.getD]
                  rw [List.getElem?_set_self (by rw [h6, slots_kill, h5]; exact hdl)]
                  rfl
                rw [e, (instAV_leaves (some d) out).1, instLeaves_sh, hsh] at hz
                cases hz
          rw [hfz'.1] at h1
          obtain rfl := Option.some.inj h1
          obtain ⟨k1, k2, k3, k4, k5⟩ := addRows_look h3
          obtain ⟨τ1, h4, h5⟩ := newFx (E := E) (τ := τ) (o := o) (K := own) (av := (instAV (some d) out).1) (fun r hr => by rw [hcons, hown]; exact hr) hcr h3 fun p hp => by
            have h0 := (k3 p hp).1
            rw [look_kill] at h0
            split at h0
            · cases h0
            · rw [h0]
              refine hN p.1 h0 ?_
              rw [St.look_put, (k3 p hp).2]; simp
          rw [hd] at h5
          unfold finCall
          rw [hfz'.2]
          simp only [Option.bind_some]
          rw [h4]
          exact ⟨_, rfl, h5⟩
        | cons r0 ios =>
          simp only at hf
          have hro' : ro = [] := hfz.resolve_right fun h => by cases h.2
          subst hro'
          have hfz' : (bif hasSh out.leaves then σ.freeze [] else some σ) = some σ ∧ (bif hasSh out.leaves then τ.freeze [] else some τ) = some τ := by
            cases hasSh out.leaves <;> exact ⟨rfl, rfl⟩
          rw [hfz'.1] at h1
          obtain rfl := Option.some.inj h1
          unfold finCall
          rw [hfz'.2]
          simp only [Option.bind_some]
          generalize hios : r0 :: ios = ior at hf hbox hiosub a5 ⊢
          unfold finIo at hf ⊢
          cases out with
          | v x => cases hf
          | tup ys =>
            simp only at hf ⊢
            obtain ⟨⟨ups, news⟩, hq, hf⟩ := Option.bind_eq_some_iff.mp hf
            obtain ⟨σ3, h3, hf⟩ := Option.bind_eq_some_iff.mp hf
            obtain rfl := Option.some.inj hf
            have hdrop : ∀ (ρ : St) (l : List Nat), (∀ r ∈ l, isBox ρ r = true) → l.foldl dropIo ρ = ρ := by
              intro ρ l
              induction l with
              | nil => intro _; rfl
              | cons r l ih =>
                intro hb
                have hr := hb r (List.mem_cons_self ..)
                have e : dropIo ρ r = ρ := by
                  unfold isBox at hr
                  unfold dropIo
                  split at hr
                  · rename_i hlk; rw [hlk]
                  · cases hr
                show l.foldl dropIo (dropIo ρ r) = ρ
                rw [e]; exact ih fun r hr => hb r (List.mem_cons_of_mem _ hr)
            have hboxσ : ∀ r ∈ ior.map (·.1), isBox σ r = true := fun r hr => by
              obtain ⟨q, hq, rfl⟩ := List.mem_map.mp hr
              exact hbox q hq
            have hboxτ : ∀ r ∈ ior.map (·.1), isBox τ r = true := fun r hr => by
              obtain ⟨q, hq, rfl⟩ := List.mem_map.mp hr
              have := hbox q hq
              unfold isBox at this ⊢
              rw [a5 q hq]; exact this
            rw [hdrop σ (ior.map (·.1)) hboxσ] at h3
            rw [hdrop τ (ior.map (·.1)) hboxτ]
            have hupsE : ∀ (l : List (Nat × Option (Nat × Nat))) (zs : List TV) (j : Nat), (∀ r ∈ l, τ.look r.1 = σ.look r.1) → ioUps τ (some d) j l zs = ioUps σ (some d) j l zs := by
              intro l
              induction l with
              | nil => intro zs j _; cases zs <;> rfl
              | cons r l ih =>
                intro zs j hl
                cases zs with
                | nil => rfl
                | cons z zs =>
                  simp only [ioUps, ioUp]
                  rw [hl r (List.mem_cons_self ..), ih zs _ fun r hr => hl r (List.mem_cons_of_mem _ hr)]
            rw [hupsE ior _ _ a5, hq]
            simp only [Option.bind_some]
            obtain ⟨_, hu1, _, _⟩ := ioUps_at hq
            obtain ⟨k1, k2, k3, k4, k5⟩ := addRows_look h3
            have hcio : ∀ r ∈ ups.map (·.1), r ∈ consOf E o σ := fun r hr => by rw [hcons, hown]; exact hiosub r (by rw [← hu1]; exact hr)
            obtain ⟨τ1, h4, h5⟩ := newFx (E := E) (τ := τ) (o := o) (K := own) (av := (instAV (some d) (mkAV (ys.take (ys.length - ior.length)))).1) (fun r hr => by rw [hcons, hown]; exact hr) hcr h3 fun p hp => by
              have h0 := (k3 p hp).1
              rw [look_kill] at h0
              split at h0
              · cases h0
              · rename_i hno
                rw [h0]
                refine hN p.1 h0 ?_
                rw [St.look_put, (look_setUps (us := ups) (σ := σ3) (r := p.1)).1 (fun hc => hno (hiosub _ (by rw [← hu1]; exact hc))), (k3 p hp).2]; simp
            have h6 := h5.setUps hcio
            rw [hd] at h6
            rw [h4]
            exact ⟨_, rfl, h6⟩
      · cases h
    · cases h
  · cases h
end
end Go.Proofs.Ytjopjjmhpadncaa.Ev

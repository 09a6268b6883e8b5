/- Regions whose order is open: the operations that make or use up rows; a step. -/
import Derived.Test.YtanipajbapcgfaaEvDraw2
set_option linter.all false
namespace Go.Proofs.Ytanipajbapcgfaa.Ev
open Go
section
variable {E : Env} {deep : Bool} {σ τ σ' : St} {o : Oper} {c : Bool}
theorem put1_quiet {l : Leaf} {f : St → Option (Bool × St)} (h : σ.put1 o l = some (c, σ')) (hf : f τ = τ.put1 o l) : Quiet o σ σ' τ f c := by
  simp only [St.put1, okS, Option.some.injEq, Prod.mk.injEq] at h
  obtain ⟨rfl, rfl⟩ := h
  exact ⟨_, rfl, hf⟩
theorem move_fx {x : Operand} (hc : consOf E o σ = []) (hx : x ∈ o.op.operands.toList) (hl : Loc o σ τ) (h : opMove E o x σ = some (c, σ')) : ∃ τ', opMove E o x τ = some (c, τ') ∧ Fx E o σ σ' τ τ' := by
  unfold opMove at h ⊢
  rw [hl.ev x hx]
  split at h
  · rename_i h1
    obtain ⟨f, hf, h⟩ := Option.bind_eq_some_iff.mp h
    simp only [hf, Option.bind_some]
    have h' : (((σ.kill []).fresh o 0 f []).bind fun σ' => some (c, σ')) = some (c, σ') := by
      obtain ⟨σ2, h2, h3⟩ := Option.bind_eq_some_iff.mp h
      obtain ⟨rfl, rfl⟩ := Prod.mk.inj (Option.some.inj h3)
      show ((σ.fresh o 0 f []).bind _) = _
      rw [h2]; rfl
    have hct : c = true := by
      obtain ⟨σ2, h2, h3⟩ := Option.bind_eq_some_iff.mp h
      exact (Prod.mk.inj (Option.some.inj h3)).1.symm
    subst hct
    obtain ⟨τ', h2, h3⟩ := freshFx (τ := τ) hl (by simp) (by rw [hc]; simp) h'
    exact ⟨τ', h2, h3⟩
  · rename_i av hno h1
    simp only [okS, Option.some.injEq, Prod.mk.injEq] at h
    obtain ⟨rfl, rfl⟩ := h
    exact Quiet.fx (f := fun τ => okS (τ.put o.dst av)) hc ⟨av, rfl, rfl⟩
  · cases h
theorem convert_fx {s d : Nat} {x : Operand} (hc : consOf E o σ = []) (hx : x ∈ o.op.operands.toList) (hl : Loc o σ τ) (h : opConvert E o s d x σ = some (c, σ')) : ∃ τ', opConvert E o s d x τ = some (c, τ') ∧ Fx E o σ σ' τ τ' := by
  have hro : ∀ l, σ.ev1 x = some l → roLeaf τ l = roLeaf σ l := fun l hl1 => roLeaf_eq fun r hr q hq => hl.lkb hx (ev1_ev hl1) (by simpa [AV.refs, AV.leaves, TV.leaves] using hr) hq
  unfold opConvert at h ⊢
  rw [hl.ev1 hx]
  split at h
  · rename_i i j l h1 h2 h3
    try simp only [h1, h2, h3]
    split at h
    · exact Quiet.fx hc (put1_quiet (f := fun τ => τ.put1 o _) h rfl)
    · exact Quiet.fx hc (put1_quiet (f := fun τ => τ.put1 o _) h rfl)
    · have hct : c = true := by
        obtain ⟨σ2, h2, h3⟩ := Option.bind_eq_some_iff.mp h
        exact (Prod.mk.inj (Option.some.inj h3)).1.symm
      subst hct
      exact freshFx (K := []) hl (by simp) (by rw [hc]; simp) h
    · rename_i l'
      rw [hro _ h3]
      split at h
      · rename_i h4; (try simp only [h4])
        exact Quiet.fx hc (put1_quiet (f := fun τ => τ.put1 o _) h rfl)
      · cases h
    · cases h
  · cases h
theorem fillParts_eq {offs : List (Nat × Nat)} : ∀ {l : List (Nat × Operand)} {ls : List Leaf}, (∀ p ∈ l, τ.evT p.2 = σ.evT p.2) → fillParts τ offs l ls = fillParts σ offs l ls
  | [], _, _ => rfl
  | (i, x) :: t, ls, h => by
    simp only [fillParts]
    have hx : τ.evT x = σ.evT x := h (i, x) (List.mem_cons_self ..)
    rw [hx]
    split
    · rw [fillParts_eq fun p hp => h p (List.mem_cons_of_mem _ hp)]
    · rfl
theorem build_fx {t : Nat} {parts : Array (Nat × Operand)} (hc : consOf E o σ = []) (hx : ∀ p ∈ parts.toList, p.2 ∈ o.op.operands.toList) (hl : Loc o σ τ) (hN : ∀ r, σ.look r = none → σ'.look r ≠ none → τ.look r = none)
    (h : opBuild E o t parts σ = some (c, σ')) : ∃ τ', opBuild E o t parts τ = some (c, τ') ∧ Fx E o σ σ' τ τ' := by
  unfold opBuild at h ⊢
  obtain ⟨i, hi, h⟩ := Option.bind_eq_some_iff.mp h
  obtain ⟨ls, hls, h⟩ := Option.bind_eq_some_iff.mp h
  simp only [hi, Option.bind_some]
  rw [fillParts_eq (σ := σ) (τ := τ) fun p hp => hl.evT (hx p hp), hls]
  simp only [Option.bind_some]
  cases ha : i.agg <;> simp only [ha, cond_true, cond_false] at h ⊢
  · cases h
  · obtain ⟨σ1, h1, h2⟩ := Option.bind_eq_some_iff.mp h
    simp only [okS, Option.some.injEq, Prod.mk.injEq] at h2
    obtain ⟨rfl, rfl⟩ := h2
    obtain ⟨k1, k2, k3, k4, k5⟩ := addRows_look h1
    obtain ⟨τ1, h3, h4⟩ := newFx (E := E) (τ := τ) (o := o) (K := []) (av := .v (.agg ls)) (by simp) (by rw [hc]; simp) (h1 : (σ.kill []).addRows _ = _) fun p hp => by
      rw [(k3 p hp).1]
      exact hN p.1 (k3 p hp).1 (by rw [St.look_put, (k3 p hp).2]; simp)
    exact ⟨_, by rw [show τ.addRows _ = some τ1 from h3]; rfl, h4⟩
theorem elemsOf_eq {f : Kd} : ∀ {l : List (Nat × Operand)} {n : Nat}, (∀ p ∈ l, τ.evT p.2 = σ.evT p.2 ∧ ∀ y, σ.evT p.2 = some y → ∀ r ∈ y.leaves.flatMap Leaf.refs, τ.look r = σ.look r) → elemsOf deep τ f n l = elemsOf deep σ f n l
  | [], _, _ => rfl
  | (i, x) :: t, n, h => by
    simp only [elemsOf]
    obtain ⟨h1, h2⟩ := h (i, x) (List.mem_cons_self ..)
    simp only at h1 h2
    rw [h1]
    cases hb : Nat.beq i n <;> simp only [cond_true, cond_false]
    split
    · rename_i y hy
      rw [ofLeaves_eq (σ := σ) (τ := τ) (h2 y hy), elemsOf_eq fun p hp => h p (List.mem_cons_of_mem _ hp)]
    · rfl
theorem elemsOf_used {f : Kd} {K : Nat → Prop} : ∀ {l : List (Nat × Operand)} {n : Nat} {p : List f.T × List Nat}, elemsOf deep σ f n l = some p → (∀ q ∈ l, ∀ y, σ.evT q.2 = some y → ∀ r ∈ y.leaves.flatMap Leaf.refs, K r) → ∀ r ∈ p.2, K r
  | [], n, p, h, _ => by simp only [elemsOf, Option.some.injEq] at h; subst h; simp
  | (i, x) :: t, n, p, h, hK => by
    simp only [elemsOf] at h
    cases hb : Nat.beq i n <;> simp only [hb, cond_true, cond_false] at h
    · cases h
    split at h
    · rename_i y hy
      obtain ⟨q, hq, h⟩ := Option.bind_eq_some_iff.mp h
      split at h
      · obtain ⟨q2, hq2, h⟩ := Option.bind_eq_some_iff.mp h
        obtain rfl := Option.some.inj h
        intro r hr
        rcases List.mem_append.mp hr with hr | hr
        · exact hK (i, x) (List.mem_cons_self ..) y hy r ((ofLeaves_rest hq).2 r hr)
        · exact elemsOf_used hq2 (fun q hq => hK q (List.mem_cons_of_mem _ hq)) r hr
      · cases h
    · cases h
theorem ref_of {x : Operand} {y : TV} (hx : x ∈ o.op.operands.toList) (hy : σ.evT x = some y) {r : Nat} (hr : r ∈ y.leaves.flatMap Leaf.refs) : r ∈ (tmpsOf o).flatMap fun t => (σ.slots.getD t undefAV).refs := by
  have he := evT_ev hy
  have hr' : r ∈ (AV.v y).refs := by simpa [AV.refs, AV.leaves] using hr
  cases x with
  | tmp t =>
    simp only [St.ev, Option.some.injEq] at he
    simp only [List.mem_flatMap]
    exact ⟨t, List.mem_filterMap.mpr ⟨.tmp t, hx, rfl⟩, by rw [he]; exact hr'⟩
  | const v =>
    simp only [St.ev] at he
    unfold constAV at he
    split at he <;> first | (obtain rfl := AV.v.inj (Option.some.inj he); simp [AV.refs, AV.leaves, TV.leaves, Leaf.refs] at hr') | cases he
  | func f =>
    simp only [St.ev, Option.some.injEq] at he; obtain rfl := AV.v.inj he
    simp [AV.refs, AV.leaves, TV.leaves, Leaf.refs] at hr'
  | global g => cases he
theorem ref_rd {r : Nat} (h : r ∈ (tmpsOf o).flatMap fun t => (σ.slots.getD t undefAV).refs) : r ∈ rdOf o σ := by
  simp only [List.mem_flatMap] at h
  obtain ⟨t, ht, hr⟩ := h
  simp only [rdOf, List.mem_flatMap]
  exact ⟨t, ht, r, hr, below_self r⟩
theorem evT_ne {x : Operand} {l : Leaf} (h : σ.ev1 x = some l) (hr : l.refs ≠ []) : σ.evT x = some (.one l) := by
  unfold St.evT
  rw [ev1_ev h]
  split
  · rename_i e; simp at e; subst e; simp [Leaf.refs] at hr
  · rename_i e; simpa using e.symm
  · rename_i h1 h2; exact absurd rfl (h2 _)
theorem buildSlice_fx {t n : Nat} {parts : Array (Nat × Operand)} (hc : consOf E o σ = (tmpsOf o).flatMap fun t => (σ.slots.getD t undefAV).refs) (hx : ∀ p ∈ parts.toList, p.2 ∈ o.op.operands.toList) (hl : Loc o σ τ)
    (h : opBuildSlice E deep o t n parts σ = some (c, σ')) : ∃ τ', opBuildSlice E deep o t n parts τ = some (c, τ') ∧ Fx E o σ σ' τ τ' := by
  unfold opBuildSlice at h ⊢
  obtain ⟨f, hf, h⟩ := Option.bind_eq_some_iff.mp h
  obtain ⟨q, hq, h⟩ := Option.bind_eq_some_iff.mp h
  simp only [hf, Option.bind_some]
  rw [elemsOf_eq (σ := σ) (τ := τ) fun p hp => ⟨hl.evT (hx p hp), fun y hy r hr => hl.lkT (hx p hp) hy hr⟩, hq]
  simp only [Option.bind_some]
  generalize (Nat.beq q.1.length n && Nat.ble (n * f.size) 16777216) = b1 at h ⊢
  generalize distinct q.2 = b2 at h ⊢
  cases b1 <;> cases b2 <;> simp only [cond_true, cond_false] at h ⊢ <;> try (cases h; done)
  have hct : c = true := by
    obtain ⟨σ2, h2, h3⟩ := Option.bind_eq_some_iff.mp h
    exact (Prod.mk.inj (Option.some.inj h3)).1.symm
  subst hct
  exact freshFx hl (fun r hr => by rw [hc]; exact elemsOf_used (K := fun r => r ∈ (tmpsOf o).flatMap fun t => (σ.slots.getD t undefAV).refs) hq (fun p hp y hy r hr => ref_of (hx p hp) hy hr) r hr) (by rw [hc]; exact fun r hr => hl.look r (ref_rd hr)) h
theorem store_fx {t : Nat} {a v : Operand} {r i k : Nat} {f : Kd} {ls : List Leaf} (hc : consOf E o σ = (tmpsOf o).flatMap fun t => (σ.slots.getD t undefAV).refs) (ha : a ∈ o.op.operands.toList) (hv : v ∈ o.op.operands.toList) (hl : Loc o σ τ)
    (hp : σ.ev1 a = some (.ptr r i k)) (hb : σ.look r = some (.box f ls)) (h : opStore E deep o t a v σ = some (c, σ')) : ∃ τ', opStore E deep o t a v τ = some (c, τ') ∧ Fx E o σ σ' τ τ' := by
  have hbτ : τ.look r = some (.box f ls) := by rw [hl.lk1 ha hp (by simp [Leaf.refs]), hb]
  have hrc : r ∈ consOf E o σ := by rw [hc]; exact ref_of ha (evT_ne hp (by simp [Leaf.refs])) (by simp [TV.leaves, Leaf.refs])
  unfold opStore at h ⊢
  rw [hl.ev1 ha, hl.evT hv, hp] at *
  split at h
  · rename_i ti r' i' k' x h1 h2 h3
    simp only [Option.some.injEq, Leaf.ptr.injEq] at h2
    obtain ⟨rfl, rfl, rfl⟩ := h2
    try simp only [h1, h3]
    cases hn : Nat.beq x.leaves.length ti.size <;> simp only [hn, cond_true, cond_false] at h ⊢
    · cases h
    rw [hb] at h
    rw [hbτ]
    simp only at h ⊢
    split at h
    · (try simp only)
      cases hm : Nat.ble (k + ti.size) ls.length <;> simp only [hm, cond_true, cond_false] at h ⊢
      · cases h
      simp only [okS, Option.some.injEq, Prod.mk.injEq] at h
      obtain ⟨rfl, rfl⟩ := h
      refine ⟨_, rfl, ⟨undefAV, put_slots (σ := σ.setRow r (.box f (putAt ls k x.leaves))) (τ := σ) rfl _ _, put_slots (σ := τ.setRow r (.box f (putAt ls k x.leaves))) (τ := τ) rfl _ _⟩, fun q hq => ?_, fun q hq => ?_, ⟨St.pins_put .., St.pins_put ..⟩⟩
      · rw [St.look_put, St.look_put, look_setRow, look_setRow]
        split
        · rfl
        · rename_i hne
          rcases hq with hq | ⟨h4, h5⟩
          · rw [hc] at hq; exact hl.look q (ref_rd hq)
          · rw [St.look_put, look_setRow, if_neg hne] at h5; exact absurd h4 h5
      · have hne : q ≠ r := fun e => hq (.inl (by rw [e]; exact hrc))
        rw [St.look_put, St.look_put, look_setRow, look_setRow, if_neg hne, if_neg hne]
        exact ⟨rfl, rfl⟩
    · cases h
  · cases h
theorem srcOf_eq {f : Kd} {l : Leaf} (h : ∀ r ∈ l.refs, ∀ q ∈ σ.below r, τ.look q = σ.look q) : srcOf deep τ f l = srcOf deep σ f l := by
  unfold srcOf
  split
  · rfl
  · rfl
  · rename_i r
    rw [h r (by simp [Leaf.refs]) r (below_self r)]
  · rw [roLeaf_eq h]
theorem srcOf_used {f : Kd} {l : Leaf} {p : List f.T × List Nat} (h : srcOf deep σ f l = some p) : ∀ r ∈ p.2, r ∈ l.refs := by
  unfold srcOf at h
  split at h
  · obtain rfl := Option.some.inj h; simp
  · split at h
    · obtain rfl := Option.some.inj h; simp
    · cases h
  · split at h
    · split at h
      · obtain rfl := Option.some.inj h
        intro r hr
        generalize (deep && !f.flat) = b at hr
        cases b <;> simp [Leaf.refs] at hr ⊢
        exact hr
      · cases h
    · cases h
  · split at h
    · generalize (deep && !f.flat) = b at h
      cases b <;> simp only [cond_true, cond_false] at h
      · split at h
        · obtain rfl := Option.some.inj h; simp
        · cases h
      · cases h
    · cases h
theorem bind_pair {α : Type} {m : Option St} {b : Bool} (h : (m.bind fun σ' => some (b, σ')) = some (c, σ')) : c = b ∧ (m.bind fun σ' => some (c, σ')) = some (c, σ') := by
  obtain ⟨s, h1, h2⟩ := Option.bind_eq_some_iff.mp h
  obtain ⟨rfl, rfl⟩ := Prod.mk.inj (Option.some.inj h2)
  exact ⟨rfl, h⟩
theorem append_fx {t u : Nat} {x y : Operand} (hc : consOf E o σ = (tmpsOf o).flatMap fun t => (σ.slots.getD t undefAV).refs) (hx : x ∈ o.op.operands.toList) (hy : y ∈ o.op.operands.toList) (hl : Loc o σ τ)
    (h : opAppend E deep o t u x y σ = some (c, σ')) : ∃ τ', opAppend E deep o t u x y τ = some (c, τ') ∧ Fx E o σ σ' τ τ' := by
  have hcr : ∀ r ∈ consOf E o σ, τ.look r = σ.look r := by rw [hc]; exact fun r hr => hl.look r (ref_rd hr)
  have hin : ∀ {z : Operand} {l : Leaf} {r : Nat}, z ∈ o.op.operands.toList → σ.ev1 z = some l → r ∈ l.refs → r ∈ consOf E o σ := by
    intro z l r hz hl1 hr
    rw [hc]
    exact ref_of hz (evT_ne hl1 (by intro e; rw [e] at hr; cases hr)) (by simpa [TV.leaves] using hr)
  unfold opAppend at h ⊢
  rw [hl.ev1 hx, hl.ev1 hy]
  cases hb : E.isSl u || E.isStr u <;> simp only [hb, cond_true, cond_false] at h ⊢
  · cases h
  split at h
  · rename_i e d s h1 h2 h3
    try simp only [h1, h2, h3]
    obtain ⟨q, hq, h⟩ := Option.bind_eq_some_iff.mp h
    rw [srcOf_eq (σ := σ) (τ := τ) fun r hr p hp => hl.lkb hy (ev1_ev h3) (by simpa [AV.refs, AV.leaves, TV.leaves] using hr) hp, hq]
    simp only [Option.bind_some]
    have hq2 : ∀ r ∈ q.2, r ∈ consOf E o σ := fun r hr => hin hy h3 (srcOf_used hq r hr)
    cases d <;> simp only at h ⊢ <;> try (cases h; done)
    · generalize distinct q.2 = b at h ⊢
      cases b <;> simp only [cond_true, cond_false] at h ⊢
      · cases h
      obtain ⟨rfl, h⟩ := bind_pair (α := Unit) h
      exact freshFx hl hq2 hcr h
    · rename_i r _
      rw [hl.lk1 hx h2 (by simp [Leaf.refs])]
      split at h
      · rename_i g xs hr
        (try simp only [hr])
        split at h
        · rename_i hg
          rw [dif_pos hg]
          generalize distinct (r :: q.2) = b at h ⊢
          cases b <;> simp only [cond_true, cond_false] at h ⊢
          · cases h
          obtain ⟨rfl, h⟩ := bind_pair (α := Unit) h
          refine freshFx hl (fun r' hr' => ?_) hcr h
          rcases List.mem_cons.mp hr' with rfl | hr'
          · exact hin hx h2 (by simp [Leaf.refs])
          · exact hq2 r' hr'
        · cases h
      · cases h
  · cases h
/-! ### calls -/
theorem odLeaf_eq {l : Leaf} (h : ∀ r ∈ l.refs, τ.look r = σ.look r) : odLeaf deep τ l = odLeaf deep σ l := by
  cases l <;> simp only [odLeaf]
  rename_i r
  rw [h r (by simp [Leaf.refs])]
theorem mapM_eq {f g : Leaf → Option Leaf} : ∀ {ls : List Leaf}, (∀ l ∈ ls, f l = g l) → ls.mapM f = ls.mapM g
  | [], _ => rfl
  | l :: ls, h => by rw [List.mapM_cons, List.mapM_cons, h l (List.mem_cons_self ..), mapM_eq fun l' hl => h l' (List.mem_cons_of_mem _ hl)]
theorem tvMapM_eq {f g : Leaf → Option Leaf} {y : TV} (h : ∀ l ∈ y.leaves, f l = g l) : y.mapM f = y.mapM g := by
  cases y with
  | one l => simp only [TV.mapM]; rw [h l (by simp [TV.leaves])]
  | agg ls => simp only [TV.mapM]; rw [mapM_eq (ls := ls) h]
theorem argsOf_eq {ms : List Md} : ∀ {xs : List Operand} {i : Nat}, (∀ x ∈ xs, τ.ev x = σ.ev x ∧ ∀ a, σ.ev x = some a → ∀ r ∈ a.refs, ∀ q ∈ σ.below r, τ.look q = σ.look q) →
    argsOf deep τ ms i xs = argsOf deep σ ms i xs ∧ ownRefs τ ms i xs = ownRefs σ ms i xs ∧ roRefs τ ms i xs = roRefs σ ms i xs ∧ ioRows τ ms i xs = ioRows σ ms i xs ∧ ∀ r ∈ ioRows σ ms i xs, τ.look r = σ.look r
  | [], _, _ => ⟨rfl, rfl, rfl, rfl, fun r h => by simp [ioRows] at h⟩
  | x :: xs, i, h => by
    obtain ⟨h1, h2⟩ := h x (List.mem_cons_self ..)
    obtain ⟨k1, k2, k3, k4, k5⟩ := argsOf_eq (ms := ms) (i := i + 1) fun x hx => h x (List.mem_cons_of_mem _ hx)
    have hT : τ.evT x = σ.evT x := by unfold St.evT; rw [h1]
    have h1' : τ.ev1 x = σ.ev1 x := by unfold St.ev1; rw [h1]
    have hbel : ∀ a, σ.ev x = some a → a.refs.flatMap τ.below = a.refs.flatMap σ.below := by
      intro a hx
      have hb : ∀ r ∈ a.refs, τ.below r = σ.below r := fun r hr => by unfold St.below; rw [h2 a hx r hr r (below_self r)]
      generalize a.refs = rs at hb
      induction rs with
      | nil => rfl
      | cons r t ih => rw [List.flatMap_cons, List.flatMap_cons, hb r (List.mem_cons_self ..), ih fun r hr => hb r (List.mem_cons_of_mem _ hr)]
    have hod : ((τ.evT x).bind (TV.mapM (odLeaf deep τ))) = (σ.evT x).bind (TV.mapM (odLeaf deep σ)) := by
      rw [hT]
      cases hy : σ.evT x with
      | none => rfl
      | some y =>
        simp only [Option.bind_some]
        exact tvMapM_eq fun l hl => odLeaf_eq fun r hr => h2 _ (evT_ev hy) r (by simp only [AV.refs, AV.leaves, List.mem_flatMap]; exact ⟨l, hl, hr⟩) r (below_self r)
    refine ⟨?_, ?_, ?_, ?_, ?_⟩
    · simp only [argsOf]
      rw [k1]
      congr 1
      cases modeAt ms i <;> simp only [argOf]
      · rw [hT]
        cases hy : σ.evT x with
        | none => rfl
        | some y =>
          simp only [Option.bind_some]
          exact tvMapM_eq fun l hl => roLeaf_eq fun r hr q hq => h2 _ (evT_ev hy) r (by simp only [AV.refs, AV.leaves, List.mem_flatMap]; exact ⟨l, hl, hr⟩) q hq
      · exact hod
      · exact hod
      · rw [h1']
        split
        · rename_i r hx
          have hev := ev1_ev' hx
          have hin : r ∈ (AV.v (.one (.ptr r 0 0))).refs := by simp [AV.refs, AV.leaves, TV.leaves, Leaf.refs]
          rw [h2 _ hev r hin r (below_self r)]
          split
          · rename_i g ls hr
            have : ls.mapM (odLeaf deep τ) = ls.mapM (odLeaf deep σ) := mapM_eq fun l hl => odLeaf_eq fun q hq => h2 _ hev r hin q (by
              unfold St.below; rw [hr]
              simp only [List.mem_cons, ARow.refs, List.mem_flatMap]
              exact .inr ⟨l, hl, hq⟩)
            rw [this]
          · rfl
        · rfl
    · simp only [ownRefs]; rw [k2, h1]
      congr 1
      cases modeAt ms i <;> cases hx : σ.ev x <;> first | rfl | exact hbel _ hx
    · simp only [roRefs]
      rw [k3, h1]
      congr 1
      cases modeAt ms i <;> cases hx : σ.ev x <;> first | rfl | exact hbel _ hx
    · simp only [ioRows]; rw [k4, h1]
    · intro r hr
      simp only [ioRows, List.mem_append] at hr
      rcases hr with hr | hr
      · cases hm : modeAt ms i <;> cases hx : σ.ev x <;> rw [hm, hx] at hr <;> simp at hr
        · exact h2 _ hx r hr r (below_self r)
        · exact h2 _ hx r hr r (below_self r)
      · exact k5 r hr
theorem instLeaves_sh (dst : Option Nat) : ∀ (ls : List Leaf) (j : Nat), hasSh (instLeaves dst j ls).1 = hasSh ls
  | [], _ => rfl
  | l :: t, j => by cases l <;> simp [instLeaves, hasSh, instLeaves_sh dst t]
theorem freeze_len : ∀ {rs : List Nat} {σ σ' : St}, σ.freeze rs = some σ' → σ'.slots.length = σ.slots.length
  | [], σ, σ', h => by simp only [St.freeze, Option.some.injEq] at h; rw [h]
  | r :: rs, σ, σ', h => by
    simp only [St.freeze] at h
    split at h
    · rw [freeze_len h, slots_kill]; simp [St.map]
    · exact freeze_len h
    · cases h
theorem call_fx {C : CF} (hC : CFdet C) {cl : Call} {x : Operand} {g : Nat} {cs : List Cap} {d : Nat} (hop : o.op = .call cl) (hcal : cl.callee = .value x) (hg : σ.ev1 x = some (.clo g cs)) (hd : o.dst = some d)
    (hfz : (roRefs σ (E.sig g).modes 0 cl.args.toList = []) ∨ (hasSh (σ'.slots.getD d undefAV).leaves = false ∧ ioRows σ (E.sig g).modes 0 cl.args.toList = [])) (hbox : ∀ r ∈ ioRows σ (E.sig g).modes 0 cl.args.toList, isBox σ r = true) (hdl : d < σ.slots.length) (hl : Loc o σ τ) (hN : ∀ r, σ.look r = none → σ'.look r ≠ none → τ.look r = none)
    (h : evalCall E C deep o cl σ some = some σ') : ∃ τ', evalCall E C deep o cl τ some = some τ' ∧ Fx E o σ σ' τ τ' := by
  have hops : o.op.operands.toList = x :: cl.args.toList := by rw [hop]; simp [Op.operands, Call.operands, hcal]
  have hxm : x ∈ o.op.operands.toList := by rw [hops]; exact List.mem_cons_self ..
  have hcons : consOf E o σ = ownRefs σ (E.sig g).modes 0 cl.args.toList := by simp only [consOf, hop, hcal, hg]
  obtain ⟨a1, a2, a3, a4, a5⟩ := argsOf_eq (deep := deep) (ms := (E.sig g).modes) (i := 0) (σ := σ) (τ := τ) (xs := cl.args.toList) fun y hy => ⟨hl.ev y (by rw [hops]; exact List.mem_cons_of_mem _ hy), fun a ha r hr q hq => hl.lkb (by rw [hops]; exact List.mem_cons_of_mem _ hy) ha hr hq⟩
  have hcr : ∀ r ∈ consOf E o σ, τ.look r = σ.look r := by
    intro r hr
    rw [hcons] at hr
    have : ∀ (xs : List Operand) (i : Nat), (∀ y ∈ xs, y ∈ o.op.operands.toList) → r ∈ ownRefs σ (E.sig g).modes i xs → τ.look r = σ.look r := by
      intro xs
      induction xs with
      | nil => intro i _ h; simp [ownRefs] at h
      | cons y ys ih =>
        intro i hm h
        simp only [ownRefs, List.mem_append] at h
        rcases h with h | h
        · cases hmd : modeAt (E.sig g).modes i <;> cases hev : σ.ev y <;> rw [hmd, hev] at h <;> simp at h
          · exact hl.lk (hm y (List.mem_cons_self ..)) hev h
          · exact hl.lk (hm y (List.mem_cons_self ..)) hev h
          · obtain ⟨q, hq, h⟩ := h
            exact hl.lkb (hm y (List.mem_cons_self ..)) hev hq h
        · exact ih (i + 1) (fun z hz => hm z (List.mem_cons_of_mem _ hz)) h
    exact this _ 0 (fun y hy => by rw [hops]; exact List.mem_cons_of_mem _ hy) hr
  unfold evalCall at h ⊢
  simp only [hcal] at h ⊢
  rw [hl.ev1 hxm, hg] at *
  simp only at h ⊢
  split at h
  · rename_i more hmore
    try simp only [hmore]
    unfold callG at h ⊢
    rw [a1, a2, a3, a4]
    split at h
    · rename_i as has
      try simp only [has]
      generalize hro : roRefs σ (E.sig g).modes 0 cl.args.toList = ro at h hfz ⊢
      generalize hown : ownRefs σ (E.sig g).modes 0 cl.args.toList = own at h ⊢
      have hiosub : ∀ r ∈ ioRows σ (E.sig g).modes 0 cl.args.toList, r ∈ own := by rw [← hown]; exact (own_live has).2.1
      generalize hio : ioRows σ (E.sig g).modes 0 cl.args.toList = ios at h hfz hbox hiosub a5 ⊢
      generalize (distinct own && apartL ro own && Nat.ble (E.sig g).modes.length cl.args.toList.length) = b at h ⊢
      cases b <;> simp only [cond_true, cond_false] at h ⊢
      · cases h
      rw [hC St] at h ⊢
      obtain ⟨out, hout, h⟩ := Option.bind_eq_some_iff.mp h
      rw [hout]
      simp only [Option.bind_some]
      rw [hd] at h ⊢
      split at h
      · rename_i σ2 hf
        obtain rfl := Option.some.inj h
        unfold finCall at hf
        obtain ⟨σ1, h1, hf⟩ := Option.bind_eq_some_iff.mp hf
        cases ios with
        | nil =>
          simp only at hf
          obtain ⟨σ3, h3, hf⟩ := Option.bind_eq_some_iff.mp hf
          obtain rfl := Option.some.inj hf
          have hfz' : (bif hasSh out.leaves then σ.freeze ro else some σ) = some σ ∧ (bif hasSh out.leaves then τ.freeze ro else some τ) = some τ := by
            cases hsh : hasSh out.leaves
            · exact ⟨rfl, rfl⟩
            · rcases hfz with hz | ⟨hz, _⟩
              · rw [hz]; exact ⟨rfl, rfl⟩
              · exfalso
                rw [hsh, cond_true] at h1
                have h5 := freeze_len h1
                have h6 := (addRows_look h3).1
                have e : ((σ3.put (some d) (instAV (some d) out).1).slots.getD d undefAV) = (instAV (some d) out).1 := by
                  simp only [St.put, List.getD]
                  rw [List.getElem?_set_self (by rw [h6, slots_kill, h5]; exact hdl)]
                  rfl
                rw [e, (instAV_leaves (some d) out).1, instLeaves_sh, hsh] at hz
                cases hz
          rw [hfz'.1] at h1
          obtain rfl := Option.some.inj h1
          obtain ⟨k1, k2, k3, k4, k5⟩ := addRows_look h3
          obtain ⟨τ1, h4, h5⟩ := newFx (E := E) (τ := τ) (o := o) (K := own) (av := (instAV (some d) out).1) (fun r hr => by rw [hcons, hown]; exact hr) hcr h3 fun p hp => by
            have h0 := (k3 p hp).1
            rw [look_kill] at h0
            split at h0
            · cases h0
            · rw [h0]
              refine hN p.1 h0 ?_
              rw [St.look_put, (k3 p hp).2]; simp
          rw [hd] at h5
          unfold finCall
          rw [hfz'.2]
          simp only [Option.bind_some]
          rw [h4]
          exact ⟨_, rfl, h5⟩
        | cons r0 ios =>
          simp only at hf
          have hro' : ro = [] := hfz.resolve_right fun h => by cases h.2
          subst hro'
          have hfz' : (bif hasSh out.leaves then σ.freeze [] else some σ) = some σ ∧ (bif hasSh out.leaves then τ.freeze [] else some τ) = some τ := by
            cases hasSh out.leaves <;> exact ⟨rfl, rfl⟩
          rw [hfz'.1] at h1
          obtain rfl := Option.some.inj h1
          unfold finCall
          rw [hfz'.2]
          simp only [Option.bind_some]
          generalize hios : r0 :: ios = ior at hf hbox hiosub a5 ⊢
          unfold finIo at hf ⊢
          cases out with
          | v x => cases hf
          | tup ys =>
            simp only at hf ⊢
            obtain ⟨⟨ups, news⟩, hq, hf⟩ := Option.bind_eq_some_iff.mp hf
            obtain ⟨σ3, h3, hf⟩ := Option.bind_eq_some_iff.mp hf
            obtain rfl := Option.some.inj hf
            have hdrop : ∀ (ρ : St) (l : List Nat), (∀ r ∈ l, isBox ρ r = true) → l.foldl dropIo ρ = ρ := by
              intro ρ l
              induction l with
              | nil => intro _; rfl
              | cons r l ih =>
                intro hb
                have hr := hb r (List.mem_cons_self ..)
                have e : dropIo ρ r = ρ := by
                  unfold isBox at hr
                  unfold dropIo
                  split at hr
                  · rename_i hlk; rw [hlk]
                  · cases hr
                show l.foldl dropIo (dropIo ρ r) = ρ
                rw [e]; exact ih fun r hr => hb r (List.mem_cons_of_mem _ hr)
            have hboxτ : ∀ r ∈ ior, isBox τ r = true := fun r hr => by
              have := hbox r hr
              unfold isBox at this ⊢
              rw [a5 r hr]; exact this
            rw [hdrop σ ior hbox] at h3
            rw [hdrop τ ior hboxτ]
            have hupsE : ∀ (l : List Nat) (zs : List TV) (j : Nat), (∀ r ∈ l, τ.look r = σ.look r) → ioUps τ (some d) j l zs = ioUps σ (some d) j l zs := by
              intro l
              induction l with
              | nil => intro zs j _; cases zs <;> rfl
              | cons r l ih =>
                intro zs j hl
                cases zs with
                | nil => rfl
                | cons z zs =>
                  simp only [ioUps, ioUp]
                  rw [hl r (List.mem_cons_self ..), ih zs _ fun r hr => hl r (List.mem_cons_of_mem _ hr)]
            rw [hupsE ior _ _ a5, hq]
            simp only [Option.bind_some]
            obtain ⟨_, hu1, _, _⟩ := ioUps_at hq
            obtain ⟨k1, k2, k3, k4, k5⟩ := addRows_look h3
            have hcio : ∀ r ∈ ups.map (·.1), r ∈ consOf E o σ := fun r hr => by rw [hcons, hown]; exact hiosub r (by rw [← hu1]; exact hr)
            obtain ⟨τ1, h4, h5⟩ := newFx (E := E) (τ := τ) (o := o) (K := own) (av := (instAV (some d) (mkAV (ys.take (ys.length - ior.length)))).1) (fun r hr => by rw [hcons, hown]; exact hr) hcr h3 fun p hp => by
              have h0 := (k3 p hp).1
              rw [look_kill] at h0
              split at h0
              · cases h0
              · rename_i hno
                rw [h0]
                refine hN p.1 h0 ?_
                rw [St.look_put, (look_setUps (us := ups) (σ := σ3) (r := p.1)).1 (fun hc => hno (hiosub _ (by rw [← hu1]; exact hc))), (k3 p hp).2]; simp
            have h6 := h5.setUps hcio
            rw [hd] at h6
            rw [h4]
            exact ⟨_, rfl, h6⟩
      · cases h
    · cases h
  · cases h
end
end Go.Proofs.Ytanipajbapcgfaa.Ev

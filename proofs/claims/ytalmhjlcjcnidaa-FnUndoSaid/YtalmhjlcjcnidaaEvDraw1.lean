/- Regions whose order is open: an operation does the same where others went before that it knows nothing of. -/
import Derived.Test.YtalmhjlcjcnidaaEvRen
set_option linter.all false
namespace Go.Proofs.Ytalmhjlcjcnidaa.Ev
open Go
/-- an answer that does not hang on who asks -/
def CFdet (C : CF) : Prop := ∀ (R : Type) (g : Nat) (as : List TV) (κ : AV → Option R), C R g as κ = (C AV g as some).bind κ
section
variable {E : Env} {C : CF} {deep : Bool} {σ τ σ' : St} {R : Type}
theorem callG_bind (hC : CFdet C) (dst : Option Nat) (g : Nat) (xs : List Operand) (more : List TV) (κ : St → Option R) : callG E C deep dst g xs more σ κ = (callG E C deep dst g xs more σ some).bind κ := by
  unfold callG
  split
  · rename_i as _
    generalize (distinct _ && apartL _ _ && Nat.ble _ _) = b
    cases b
    · rfl
    · simp only [cond_true]
      rw [hC R, hC St]
      cases C AV g (as ++ more) some with
      | none => rfl
      | some out =>
        simp only [Option.bind_some]
        generalize finCall σ dst _ _ _ _ out = f
        cases f <;> rfl
  · rfl
theorem evalCall_bind (hC : CFdet C) (o : Oper) (c : Call) (κ : St → Option R) : evalCall E C deep o c σ κ = (evalCall E C deep o c σ some).bind κ := by
  unfold evalCall
  split
  · split
    · split
      · exact callG_bind hC ..
      · rfl
    · rfl
  · rfl
theorem evalOp_bind (hC : CFdet C) (o : Oper) (κ : St → Option R) : evalOp E C deep o σ κ = (evalOp E C deep o σ some).bind κ := by
  unfold evalOp
  split
  · exact evalCall_bind hC ..
  · cases evalOp1 E deep o (preOp E deep o σ) with
    | none => rfl
    | some p => obtain ⟨c, σ'⟩ := p; cases c <;> rfl
theorem evalStep_bind (hC : CFdet C) (ops : Array Oper) (o : Oper) (κ : St → Option R) : evalStep E C deep ops o σ κ = (evalStep E C deep ops o σ some).bind κ := by
  unfold evalStep
  split
  · exact evalOp_bind hC ..
  · rfl
  · rename_i d want _
    split
    · rename_i b _
      cases b <;> cases want <;> simp only [cond_true, cond_false] <;> first | exact evalOp_bind hC .. | rfl
    · rfl
    · rfl
/-! ### where others went before -/
/-- the operation finds what it looks at as it was -/
structure Loc (o : Oper) (σ τ : St) : Prop where
  ev : ∀ x ∈ o.op.operands.toList, τ.ev x = σ.ev x
  look : ∀ r ∈ rdOf o σ, τ.look r = σ.look r
  key : ∀ k ∈ keys3 o.dst, τ.look k = σ.look k
def Tch (E : Env) (o : Oper) (σ σ' : St) (r : Nat) : Prop := r ∈ consOf E o σ ∨ (σ.look r = none ∧ σ'.look r ≠ none)
structure Fx (E : Env) (o : Oper) (σ σ' τ τ' : St) : Prop where
  av : ∃ av, σ'.slots = (σ.put o.dst av).slots ∧ τ'.slots = (τ.put o.dst av).slots
  same : ∀ r, Tch E o σ σ' r → τ'.look r = σ'.look r
  rest : ∀ r, ¬ Tch E o σ σ' r → σ'.look r = σ.look r ∧ τ'.look r = τ.look r
  pin : σ'.pins = σ.pins ∧ τ'.pins = τ.pins
theorem below_self (r : Nat) : r ∈ σ.below r := by unfold St.below; split <;> simp
theorem rd_of1 {o : Oper} {x : Operand} {a : AV} {r : Nat} (hx : x ∈ o.op.operands.toList) (ha : σ.ev x = some a) (hr : r ∈ a.refs) (hq0 : quietMove o = false := by first | assumption | simp [quietMove, *]) : r ∈ rdOf o σ := by
  unfold rdOf
  rw [hq0, cond_false]
  cases x with
  | tmp t =>
    simp only [St.ev, Option.some.injEq] at ha; subst ha
    have ht : t ∈ tmpsOf o := List.mem_filterMap.mpr ⟨.tmp t, hx, rfl⟩
    cases lightOp o <;> simp only [cond_true, cond_false, List.mem_flatMap]
    · exact ⟨t, ht, r, hr, below_self r⟩
    · exact ⟨t, ht, hr⟩
  | const v =>
    simp only [St.ev] at ha
    unfold constAV at ha
    split at ha <;> first | (obtain rfl := Option.some.inj ha; simp [AV.refs, AV.leaves, TV.leaves, Leaf.refs, undefAV] at hr; done) | cases ha
  | func f =>
    simp only [St.ev, Option.some.injEq] at ha; subst ha
    simp [AV.refs, AV.leaves, TV.leaves, Leaf.refs] at hr
  | global g => cases ha
theorem rd_of {o : Oper} {x : Operand} {a : AV} {r q : Nat} (hx : x ∈ o.op.operands.toList) (ha : σ.ev x = some a) (hr : r ∈ a.refs) (hq : q ∈ σ.below r) (hq0 : quietMove o = false := by first | assumption | simp [quietMove, *]) (hq1 : lightOp o = false := by first | assumption | simp [lightOp, *]) : q ∈ rdOf o σ := by
  unfold rdOf
  rw [hq0, cond_false, hq1, cond_false]
  cases x with
  | tmp t =>
    simp only [St.ev, Option.some.injEq] at ha; subst ha
    simp only [List.mem_flatMap]
    exact ⟨t, List.mem_filterMap.mpr ⟨.tmp t, hx, rfl⟩, r, hr, hq⟩
  | const v =>
    simp only [St.ev] at ha
    unfold constAV at ha
    split at ha <;> first | (obtain rfl := Option.some.inj ha; simp [AV.refs, AV.leaves, TV.leaves, Leaf.refs, undefAV] at hr; done) | cases ha
  | func f =>
    simp only [St.ev, Option.some.injEq] at ha; subst ha
    simp [AV.refs, AV.leaves, TV.leaves, Leaf.refs] at hr
  | global g => cases ha
theorem Loc.lk {o : Oper} (h : Loc o σ τ) {x : Operand} (hx : x ∈ o.op.operands.toList) {a : AV} (ha : σ.ev x = some a) {r : Nat} (hr : r ∈ a.refs) (hq0 : quietMove o = false := by first | assumption | simp [quietMove, *]) : τ.look r = σ.look r := h.look r (rd_of1 hx ha hr hq0)
theorem Loc.lkb {o : Oper} (h : Loc o σ τ) {x : Operand} (hx : x ∈ o.op.operands.toList) {a : AV} (ha : σ.ev x = some a) {r q : Nat} (hr : r ∈ a.refs) (hq : q ∈ σ.below r) (hq0 : quietMove o = false := by first | assumption | simp [quietMove, *]) (hq1 : lightOp o = false := by first | assumption | simp [lightOp, *]) : τ.look q = σ.look q := h.look q (rd_of hx ha hr hq hq0 hq1)
theorem Loc.ev1 {o : Oper} (h : Loc o σ τ) {x : Operand} (hx : x ∈ o.op.operands.toList) : τ.ev1 x = σ.ev1 x := by unfold St.ev1; rw [h.ev x hx]
theorem Loc.evT {o : Oper} (h : Loc o σ τ) {x : Operand} (hx : x ∈ o.op.operands.toList) : τ.evT x = σ.evT x := by unfold St.evT; rw [h.ev x hx]
theorem ev1_ev {x : Operand} {l : Leaf} (h : σ.ev1 x = some l) : σ.ev x = some (.v (.one l)) := by
  unfold St.ev1 at h
  split at h
  · obtain rfl := Option.some.inj h; assumption
  · cases h
theorem Loc.lk1 {o : Oper} (h : Loc o σ τ) {x : Operand} (hx : x ∈ o.op.operands.toList) {l : Leaf} (ha : σ.ev1 x = some l) {r : Nat} (hr : r ∈ l.refs) (hq0 : quietMove o = false := by first | assumption | simp [quietMove, *]) : τ.look r = σ.look r :=
  h.lk hx (ev1_ev ha) (by simpa [AV.refs, AV.leaves, TV.leaves] using hr) hq0
theorem Loc.lkT {o : Oper} (h : Loc o σ τ) {x : Operand} (hx : x ∈ o.op.operands.toList) {y : TV} (ha : σ.evT x = some y) {r : Nat} (hr : r ∈ y.leaves.flatMap Leaf.refs) (hq0 : quietMove o = false := by first | assumption | simp [quietMove, *]) : τ.look r = σ.look r :=
  h.lk hx (evT_ev ha) (by simpa [AV.refs, AV.leaves] using hr) hq0
/-- what only leaves a value -/
def Quiet (o : Oper) (σ σ' τ : St) (f : St → Option (Bool × St)) (c : Bool) : Prop := ∃ av, σ' = σ.put o.dst av ∧ f τ = some (c, τ.put o.dst av)
theorem Quiet.fx {o : Oper} {f : St → Option (Bool × St)} {c : Bool} (hc : consOf E o σ = []) (h : Quiet o σ σ' τ f c) : ∃ τ', f τ = some (c, τ') ∧ Fx E o σ σ' τ τ' := by
  obtain ⟨av, rfl, h⟩ := h
  have hno : ∀ r, ¬ Tch E o σ (σ.put o.dst av) r := by
    intro r hr
    rcases hr with hr | ⟨h1, h2⟩
    · rw [hc] at hr; cases hr
    · rw [St.look_put] at h2; exact h2 h1
  exact ⟨_, h, ⟨av, rfl, rfl⟩, fun r hr => absurd hr (hno r), fun r _ => ⟨St.look_put .., St.look_put ..⟩, ⟨St.pins_put .., St.pins_put ..⟩⟩
theorem look_kill' {K : List Nat} {r : Nat} (h : τ.look r = σ.look r) : (τ.kill K).look r = (σ.kill K).look r := by rw [look_kill, look_kill, h]
theorem slots_kill (σ : St) (K : List Nat) : (σ.kill K).slots = σ.slots := rfl
theorem pins_kill (σ : St) (K : List Nat) : (σ.kill K).pins = σ.pins := rfl
theorem put_slots {σ τ : St} (h : σ.slots = τ.slots) (d : Option Nat) (av : AV) : (σ.put d av).slots = (τ.put d av).slots := by cases d <;> simp [St.put, h]
/-- new rows behind some that are used up -/
theorem newFx {o : Oper} {K : List Nat} {N : List (Nat × ARow)} {σ1 : St} {av : AV} (hK : ∀ r ∈ K, r ∈ consOf E o σ) (hcr : ∀ r ∈ consOf E o σ, τ.look r = σ.look r) (h : (σ.kill K).addRows N = some σ1)
    (hnew : ∀ p ∈ N, τ.look p.1 = σ.look p.1) : ∃ τ1, (τ.kill K).addRows N = some τ1 ∧ Fx E o σ (σ1.put o.dst av) τ (τ1.put o.dst av) := by
  have hex : ∀ (N : List (Nat × ARow)) (σ τ σ1 : St), σ.addRows N = some σ1 → (∀ p ∈ N, τ.look p.1 = σ.look p.1) → ∃ τ1, τ.addRows N = some τ1 := by
    intro N
    induction N with
    | nil => intro σ τ σ1 _ _; exact ⟨τ, rfl⟩
    | cons p N ih =>
      obtain ⟨k, row⟩ := p
      intro σ τ σ1 h hl
      simp only [St.addRows] at h ⊢
      rw [hl (k, row) (List.mem_cons_self ..)]
      split at h
      · rename_i hk
        simp only [hk]
        refine ih _ _ _ h fun p hp => ?_
        rw [look_setRow, look_setRow, hl p (List.mem_cons_of_mem _ hp)]
      · cases h
  obtain ⟨k1, k2, k3, k4, k5⟩ := addRows_look h
  obtain ⟨τ1, hτ⟩ := hex N _ (τ.kill K) _ h fun p hp => look_kill' (hnew p hp)
  obtain ⟨m1, m2, m3, m4, m5⟩ := addRows_look hτ
  refine ⟨τ1, hτ, ⟨av, put_slots (by rw [k1, slots_kill]) _ _, put_slots (by rw [m1, slots_kill]) _ _⟩, fun r hr => ?_, fun r hr => ?_, ⟨by rw [St.pins_put, k2, pins_kill], by rw [St.pins_put, m2, pins_kill]⟩⟩
  · rw [St.look_put, St.look_put]
    by_cases hN : ∃ p ∈ N, p.1 = r
    · obtain ⟨p, hp, rfl⟩ := hN
      rw [(k3 p hp).2, (m3 p hp).2]
    · have hno : ∀ p ∈ N, p.1 ≠ r := fun p hp e => hN ⟨p, hp, e⟩
      rw [k4 r hno, m4 r hno]
      refine look_kill' ?_
      rcases hr with hr | ⟨h1, h2⟩
      · exact hcr r hr
      · rw [St.look_put, k4 r hno, look_kill] at h2
        split at h2
        · rename_i hk; exact hcr r (hK r hk)
        · exact absurd h1 h2
  · rw [St.look_put, St.look_put]
    have hno : ∀ p ∈ N, p.1 ≠ r := by
      rintro p hp rfl
      have h0 := (k3 p hp).1
      rw [look_kill] at h0
      split at h0
      · cases h0
      · exact hr (.inr ⟨h0, by rw [St.look_put, (k3 p hp).2]; simp⟩)
    have hnk : r ∉ K := fun h => hr (.inl (hK r h))
    rw [k4 r hno, m4 r hno, look_kill, look_kill, if_neg hnk, if_neg hnk]
    exact ⟨rfl, rfl⟩
theorem look_setUps_same : ∀ {us : List (Nat × ARow)} {σ τ : St} {r : Nat}, r ∈ us.map (·.1) ∨ σ.look r = τ.look r → (setUps σ us).look r = (setUps τ us).look r
  | [], σ, τ, r, h => h.resolve_left (by simp)
  | (r0, row0) :: us, σ, τ, r, h => by
    refine look_setUps_same (us := us) (σ := σ.setRow r0 row0) (τ := τ.setRow r0 row0) ?_
    rcases h with h | h
    · rcases List.mem_cons.mp h with h | h
      · right; rw [look_setRow, look_setRow, if_pos h, if_pos h]
      · exact .inl h
    · right; rw [look_setRow, look_setRow, h]
theorem Fx.setUps {o : Oper} {σ1 τ1 : St} {av : AV} {us : List (Nat × ARow)} (h : Fx E o σ (σ1.put o.dst av) τ (τ1.put o.dst av)) (hu : ∀ r ∈ us.map (·.1), r ∈ consOf E o σ) : Fx E o σ ((setUps σ1 us).put o.dst av) τ ((setUps τ1 us).put o.dst av) := by
  obtain ⟨⟨av', h1, h2⟩, h3, h4, h5⟩ := h
  obtain ⟨s1, s2⟩ := setUps_slots us σ1
  obtain ⟨t1, t2⟩ := setUps_slots us τ1
  have hold : ∀ r, r ∉ us.map (·.1) → ((Ev.setUps σ1 us).put o.dst av).look r = (σ1.put o.dst av).look r := fun r hr => by rw [St.look_put, St.look_put]; exact (look_setUps (us := us) (σ := σ1) (r := r)).1 hr
  have holdτ : ∀ r, r ∉ us.map (·.1) → ((Ev.setUps τ1 us).put o.dst av).look r = (τ1.put o.dst av).look r := fun r hr => by rw [St.look_put, St.look_put]; exact (look_setUps (us := us) (σ := τ1) (r := r)).1 hr
  refine ⟨⟨av', by rw [put_slots s1]; exact h1, by rw [put_slots t1]; exact h2⟩, fun r hr => ?_, fun r hr => ?_, ?_⟩
  · by_cases hm : r ∈ us.map (·.1)
    · rw [St.look_put, St.look_put]; exact (look_setUps_same (.inl hm)).symm
    · rw [hold r hm, holdτ r hm]
      refine h3 r ?_
      rcases hr with hr | ⟨a, b⟩
      · exact .inl hr
      · rw [hold r hm] at b; exact .inr ⟨a, b⟩
  · have hm : r ∉ us.map (·.1) := fun hm => hr (.inl (hu r hm))
    rw [hold r hm, holdτ r hm]
    refine h4 r fun ht => hr ?_
    rcases ht with ht | ⟨a, b⟩
    · exact .inl ht
    · exact .inr ⟨a, by rw [hold r hm]; exact b⟩
  · rw [St.pins_put, St.pins_put, s2, t2]
    rw [St.pins_put, St.pins_put] at h5; exact h5
theorem fresh_new {o : Oper} {j : Nat} {f : Kd} {xs : List f.T} (h : σ.fresh o j f xs = some σ') : ∃ σ1, σ.addRows [(σ.freeKey o.dst j, .data f xs)] = some σ1 ∧ σ' = σ1.put o.dst (.v (.one (.ow (σ.freeKey o.dst j)))) := by
  unfold St.fresh at h
  obtain ⟨σ1, h1, h2⟩ := Option.map_eq_some_iff.mp h
  exact ⟨σ1, h1, h2.symm⟩
theorem freeKey_eq {d : Option Nat} (hk : ∀ k ∈ keys3 d, τ.look k = σ.look k) : τ.freeKey d 0 = σ.freeKey d 0 := by
  unfold St.freeKey
  rw [hk (key d 0) (by simp [keys3]), hk (key d (32 + 0)) (by simp [keys3])]
theorem freeKey_mem (d : Option Nat) : σ.freeKey d 0 ∈ keys3 d := by
  unfold St.freeKey keys3
  split
  · simp
  · split <;> simp
/-- a new row of data -/
theorem freshFx {o : Oper} {K : List Nat} {f : Kd} {xs : List f.T} {c : Bool} (hl : Loc o σ τ) (hK : ∀ r ∈ K, r ∈ consOf E o σ) (hcr : ∀ r ∈ consOf E o σ, τ.look r = σ.look r) (h : (((σ.kill K).fresh o 0 f xs).bind fun σ' => some (c, σ')) = some (c, σ')) :
    ∃ τ', (((τ.kill K).fresh o 0 f xs).bind fun σ' => some (c, σ')) = some (c, τ') ∧ Fx E o σ σ' τ τ' := by
  obtain ⟨σ2, h1, h2⟩ := Option.bind_eq_some_iff.mp h
  obtain ⟨_, rfl⟩ := Prod.mk.inj (Option.some.inj h2)
  obtain ⟨σ1, h3, rfl⟩ := fresh_new h1
  have hkk : ∀ k ∈ keys3 o.dst, (τ.kill K).look k = (σ.kill K).look k := fun k hk => look_kill' (hl.key k hk)
  obtain ⟨τ1, h4, h5⟩ := newFx (τ := τ) (av := .v (.one (.ow ((σ.kill K).freeKey o.dst 0)))) hK hcr h3 (by
    intro p hp
    simp only [List.mem_singleton] at hp; subst hp
    exact hl.key _ (freeKey_mem _))
  refine ⟨_, ?_, h5⟩
  unfold St.fresh
  rw [freeKey_eq hkk, h4]
  rfl
end
end Go.Proofs.Ytalmhjlcjcnidaa.Ev

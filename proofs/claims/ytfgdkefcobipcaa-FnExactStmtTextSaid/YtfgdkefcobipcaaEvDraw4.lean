/- Regions whose order is open: a step; whatever order is picked. -/
import Derived.Test.YtfgdkefcobipcaaEvDraw3
set_option linter.all false
namespace Go.Proofs.Ytfgdkefcobipcaa.Ev
open Go
section
variable {E : Env} {C : CF} {deep : Bool} {ops : Array Oper} {σ τ σ' : St} {o : Oper} {c : Bool}
theorem bltn_cons {cl : Call} {b : Builtin} (hop : o.op = .call cl) (hcal : cl.callee = .builtin b) (hb : b ≠ .append) : consOf E o σ = [] := by
  simp only [consOf, hop, hcal]
  split
  · rename_i h; cases h; exact absurd rfl hb
  · rename_i h; cases h
  · rfl
theorem op1_fx (h : evalOp1 E deep o σ = some (c, σ')) (hm : mayDraw E o σ σ' = true) (hl : Loc o σ τ) (hN : ∀ r, σ.look r = none → σ'.look r ≠ none → τ.look r = none) : ∃ τ', evalOp1 E deep o τ = some (c, τ') ∧ Fx E o σ σ' τ τ' := by
  have lk : ∀ {x : Operand}, x ∈ o.op.operands.toList → ∀ l, σ.ev1 x = some l → ∀ r ∈ l.refs, τ.look r = σ.look r := fun hx l h r hr => hl.lk1 hx h hr
  unfold evalOp1 at h ⊢
  cases hop : o.op <;> simp only [mayDraw, hop] at hm <;> simp only [hop] at h ⊢ <;> try (cases hm; done)
  case move x => exact move_fx (by simp [consOf, hop]) (by simp [hop, Op.operands]) hl h
  case assign x => exact move_fx (by simp [consOf, hop]) (by simp [hop, Op.operands]) hl h
  case pick p a b => exact Quiet.fx (by simp [consOf, hop]) (pick_q (hl.ev _ (by simp [hop, Op.operands])) (hl.ev _ (by simp [hop, Op.operands])) (hl.ev _ (by simp [hop, Op.operands])) h)
  case build t ps => exact build_fx (by simp [consOf, hop]) (fun p hp => by simp [hop, Op.operands]; exact ⟨p.1, by simpa using hp⟩) hl hN h
  case buildSlice t n ps => exact buildSlice_fx (by simp [consOf, hop]) (fun p hp => by simp [hop, Op.operands]; exact ⟨p.1, by simpa using hp⟩) hl h
  case load t a => exact Quiet.fx (by simp [consOf, hop]) (load_q (hl.ev1 (by simp [hop, Op.operands])) (lk (by simp [hop, Op.operands])) h)
  case store t a v =>
    split at hm
    · rename_i r i k hp
      split at hm
      · rename_i f ls hb
        exact store_fx (by simp [consOf, hop]) (by simp [hop, Op.operands]) (by simp [hop, Op.operands]) hl hp hb h
      · cases hm
    · cases hm
  case nilCheck x => exact Quiet.fx (by simp [consOf, hop]) (nil_q (hl.ev1 (by simp [hop, Op.operands])) (lk (by simp [hop, Op.operands])) h)
  case binOp op t x y u => exact Quiet.fx (by simp [consOf, hop]) (bin_q (hl.ev _ (by simp [hop, Op.operands])) (hl.ev _ (by simp [hop, Op.operands])) h)
  case unOp op t x => exact Quiet.fx (by simp [consOf, hop]) (un_q (hl.ev1 (by simp [hop, Op.operands])) h)
  case convert s d x => exact convert_fx (by simp [consOf, hop]) (by simp [hop, Op.operands]) hl h
  case slice t x lo hi mx => exact Quiet.fx (by simp [consOf, hop]) (slice_q (hl.ev1 (by simp [hop, Op.operands])) (fun y e => hl.ev1 (by simp [hop, Op.operands, e])) (fun y e => hl.ev1 (by simp [hop, Op.operands, e])) (lk (by simp [hop, Op.operands])) h)
  case fieldAddr s x f => exact Quiet.fx (by simp [consOf, hop]) (fieldAddr_q (hl.ev1 (by simp [hop, Op.operands])) (lk (by simp [hop, Op.operands])) h)
  case indexAddr t x i => exact Quiet.fx (by simp [consOf, hop]) (indexAddr_q (hl.ev1 (by simp [hop, Op.operands])) (hl.ev1 (by simp [hop, Op.operands])) (lk (by simp [hop, Op.operands])) h)
  case index t x i => exact Quiet.fx (by simp [consOf, hop]) (index_q (hl.ev1 (by simp [hop, Op.operands])) (hl.ev1 (by simp [hop, Op.operands])) h)
  case extract x k => exact Quiet.fx (by simp [consOf, hop]) (extract_q (hl.ev _ (by simp [hop, Op.operands])) h)
  case call cl =>
    have hops : ∀ {b : Builtin}, cl.callee = .builtin b → o.op.operands.toList = cl.args.toList := by
      intro b hb; rw [hop]; simp [Op.operands, Call.operands, hb]
    split at h
    · rename_i t _ x e1 e2 e3
      (try simp only [e1, e2, e3])
      exact Quiet.fx (bltn_cons hop e1 (by decide)) (len_q (hl.ev1 (by rw [hops e1, e3]; simp)) (lk (by rw [hops e1, e3]; simp)) h)
    · rename_i t u _ x y e1 e2 e3
      (try simp only [e1, e2, e3])
      exact append_fx (by simp [consOf, hop, e1]) (by rw [hops e1, e3]; simp) (by rw [hops e1, e3]; simp) hl h
    · rename_i x y e1 e3
      (try simp only [e1, e3])
      exact Quiet.fx (bltn_cons hop e1 (by decide)) (max_q (hl.ev1 (by rw [hops e1, e3]; simp)) (hl.ev1 (by rw [hops e1, e3]; simp)) h)
    · cases h
theorem put_same {d : Nat} {b : Bool} (h : σ.slots.getD d undefAV = .v (.one (.bool b))) : σ.put (some d) (.v (.one (.bool b))) = σ := by
  have hd : d < σ.slots.length := by
    rcases Nat.lt_or_ge d σ.slots.length with h' | h'
    · exact h'
    · simp [List.getD, List.getElem?_eq_none h', undefAV] at h
  have : σ.slots[d] = .v (.one (.bool b)) := by simpa [List.getD, hd] using h
  simp only [St.put]
  rw [← this, List.set_getElem_self]
theorem cons_rd {r : Nat} (h : r ∈ consOf E o σ) : r ∈ rdOf o σ := by
  unfold consOf at h
  split at h
  · exact ref_rd h
  · exact ref_rd h
  · rename_i cl hop
    split at h
    · exact ref_rd h
    · rename_i x hcal
      split at h
      · rename_i g cs hg
        have hops : o.op.operands.toList = x :: cl.args.toList := by rw [hop]; simp [Op.operands, Call.operands, hcal]
        have : ∀ (xs : List Operand) (i : Nat), (∀ y ∈ xs, y ∈ o.op.operands.toList) → r ∈ ownRefs σ (E.sig g).modes i xs → r ∈ rdOf o σ := by
          intro xs
          induction xs with
          | nil => intro i _ h; simp [ownRefs] at h
          | cons y ys ih =>
            intro i hm h
            simp only [ownRefs, List.mem_append] at h
            rcases h with h | h
            · cases hmd : modeAt (E.sig g).modes i <;> cases hev : σ.ev y <;> rw [hmd, hev] at h <;> simp at h
              exact rd_of (hm y (List.mem_cons_self ..)) hev h (below_self r)
            · exact ih (i + 1) (fun z hz => hm z (List.mem_cons_of_mem _ hz)) h
        exact this _ 0 (fun y hy => by rw [hops]; exact List.mem_cons_of_mem _ hy) h
      · cases h
    · cases h
  · cases h
theorem skip_fx (hl : Loc o σ τ) : Fx E o σ (σ.put o.dst skipAV) τ (τ.put o.dst skipAV) := by
  refine ⟨⟨skipAV, rfl, rfl⟩, fun r hr => ?_, fun r _ => ⟨St.look_put .., St.look_put ..⟩, ⟨St.pins_put .., St.pins_put ..⟩⟩
  rw [St.look_put, St.look_put]
  rcases hr with hr | ⟨h1, h2⟩
  · exact hl.look r (cons_rd hr)
  · rw [St.look_put] at h2; exact absurd h1 h2
theorem evalOp_fx (hC : CFdet C) (h : evalOp E C deep o σ some = some σ') (hm : mayDraw E o σ σ' = true) (hl : Loc o σ τ) (hN : ∀ r, σ.look r = none → σ'.look r ≠ none → τ.look r = none) :
    ∃ τ', evalOp E C deep o τ some = some τ' ∧ Fx E o σ σ' τ τ' := by
  unfold evalOp at h ⊢
  split at h
  · rename_i cl hcl
    (try simp only [hcl])
    have hop := isGoCall_op hcl
    simp only [mayDraw, hop] at hm
    split at hm
    · rename_i hcal; unfold evalCall at h; rw [hcal] at h; cases h
    · rename_i hcal; unfold evalCall at h; rw [hcal] at h; cases h
    · rename_i hcal; unfold evalCall at h; rw [hcal] at h; cases h
    · rename_i x hcal
      split at hm
      · rename_i g cs d hg hd
        simp only [Bool.and_eq_true, Bool.or_eq_true, Bool.not_eq_true'] at hm
        refine call_fx hC hop hcal hg hd ?_ (Nat.blt_eq.mp hm.1) hl hN h
        refine hm.2.imp (fun h => ?_) id
        split at h
        · assumption
        · cases h
      · cases hm
    · cases hm
  · rename_i hcl
    (try simp only [hcl])
    cases h1 : evalOp1 E deep o σ with
    | none => rw [h1] at h; cases h
    | some p =>
      obtain ⟨c, σ2⟩ := p
      rw [h1] at h
      cases c <;> simp only [cond_true, cond_false] at h
      · cases h
      · obtain rfl := Option.some.inj h
        obtain ⟨τ', h2, h3⟩ := op1_fx h1 hm hl hN
        rw [h2]
        exact ⟨τ', rfl, h3⟩
/-- A STEP: it does the same where others went before that it knows nothing of. -/
theorem step_fx (hC : CFdet C) (h : evalStep E C deep ops o σ some = some σ') (hm : mayDraw E o σ σ' = true) (hl : Loc o σ τ) (hg : ∀ d w, guardTmp ops o = some (some d, w) → τ.slots.getD d undefAV = σ.slots.getD d undefAV)
    (hN : ∀ r, σ.look r = none → σ'.look r ≠ none → τ.look r = none) : ∃ τ', evalStep E C deep ops o τ some = some τ' ∧ Fx E o σ σ' τ τ' := by
  unfold evalStep at h ⊢
  split at h
  · rename_i hgt; (try simp only [hgt])
    exact evalOp_fx hC h hm hl hN
  · cases h
  · rename_i d want hgt
    have hgd := hg d want hgt
    (try simp only [hgt])
    rw [hgd]
    split at h
    · rename_i b hb
      (try simp only [hb])
      have hp := put_same hb
      have hpτ := put_same (hgd.trans hb)
      cases b <;> cases want <;> simp only [cond_true, cond_false] at h ⊢ <;> rw [hp] at h <;> rw [hpτ]
      · exact evalOp_fx hC h hm hl hN
      · obtain rfl := Option.some.inj h; exact ⟨_, rfl, skip_fx hl⟩
      · obtain rfl := Option.some.inj h; exact ⟨_, rfl, skip_fx hl⟩
      · exact evalOp_fx hC h hm hl hN
    · rename_i hb
      (try simp only [hb])
      obtain rfl := Option.some.inj h; exact ⟨_, rfl, skip_fx hl⟩
    · cases h
end
end Go.Proofs.Ytfgdkefcobipcaa.Ev

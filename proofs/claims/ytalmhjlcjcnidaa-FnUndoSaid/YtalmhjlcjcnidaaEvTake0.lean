/- A slice in an element's cell gets a row of its own: the memory stays as it is. -/
import Derived.Test.YtalmhjlcjcnidaaEvOps5
set_option linter.all false
namespace Go.Proofs.Ytalmhjlcjcnidaa.Ev
open Go
section
variable {P : Program} {E : Env} {X : Ctx} {σ σ' τ : St} {a : Act} {w w' : World} {G : Gh}
/-- a row out of what crosses the border -/
theorem rowIn {h : Array Obj} {f : Kd} {xs : List f.T} {v : Value} {T : Nat → Prop} {n : Nat} (hc : CRel true h (.sl f) xs [v] T) (hv : G.hv n = v)
    (h1 : ∀ q, T q → (X.deep = true ∨ ∃ c m, v = .slice (some ⟨q, 0, none⟩) c m) → G.rt q = some n)
    (h2 : X.deep = false → ∀ q, T q → (¬ ∃ c m, v = .slice (some ⟨q, 0, none⟩) c m) → Imm X σ h G q) : RowRel X σ h G n (.data f xs) := by
  simp only [CRel] at hc
  rcases hc with ⟨rfl, a, c, e, e'⟩ | ⟨b, off, cap, arr, e, fr, ow, e1, e2, e3, e4, e5, e6⟩
  · obtain ⟨rfl, rfl⟩ := e' trivial
    simp at e
    exact .inl ⟨rfl, by rw [hv, e]⟩
  · obtain ⟨rfl, e7, e8⟩ := e5 trivial
    simp at e1
    refine .inr ⟨b, cap, arr, e, fr, ow, by rw [hv, e1], e2, h1 b e3 (.inr ⟨_, _, e1⟩), e4, e7, e8, fun i x hx => ?_⟩
    have := e6 i x hx
    rw [Nat.zero_add] at this
    unfold ESet
    cases hd : X.deep
    · refine this.rd.mono fun q hq => ?_
      rw [if_neg (by simp)]
      refine h2 hd q hq.1 ?_
      rintro ⟨c, m, e9⟩
      rw [e1] at e9; simp at e9
      exact (hq.2 trivial).1 e9.1.symm
    · refine this.mono fun q hq => ?_
      rw [if_pos rfl]
      exact ⟨h1 q hq.1 (.inl hd), hq.2 trivial⟩
theorem Sim.takePa (hs : Sim X σ a w G) (hd : X.deep = true) {n r i c : Nat} {v : Value} (hl : LRel X σ w.heap G (.pa r i c) v) (h : σ.takePa n r i c = some τ) :
    ∃ G', Sim X τ a w G' ∧ LRel X τ w.heap G' (.ow n) v ∧ ∃ row, τ.look n = some row := by
  classical
  unfold St.takePa at h
  split at h
  · rename_i f xs hr hn
    obtain ⟨p, hp, rfl⟩ := Option.map_eq_some_iff.mp h
    obtain ⟨g, ys⟩ := p
    have hrn : r ≠ n := by rintro rfl; rw [hr] at hn; cases hn
    obtain ⟨hi, hc, b, nn, cap, arr, e, fr, e1, e2, e3⟩ := hl.2 f xs (St.dat_of hr)
    rcases hs.row r _ hr with ⟨_, e'⟩ | ⟨b', cap', arr', et, fr', ow, d1, d2, d3, d4, d5, d6, d7⟩
    · rw [e1] at e'; simp at e'
    rw [e1] at d1; simp at d1; obtain ⟨rfl, rfl, rfl⟩ := d1
    rw [e2] at d4; simp at d4; obtain ⟨rfl, rfl, rfl⟩ := d4
    have hel := d7 i _ (getD_of (d := f.zero) hi)
    rw [hd] at hel
    obtain ⟨S', u, k1, k2, k3, k4⟩ := CRel.toHole hel hp
    rw [seg_get hc, e3] at k1
    obtain rfl := Option.some.inj k1
    have hES : ∀ j q, ESet X σ w.heap G r b j ow q → G.rt q = some r ∧ q ≠ b ∧ ow q = j := by
      intro j q hq; unfold ESet at hq; rw [if_pos hd] at hq; exact hq
    have hS' : ∀ q, S' q → G.rt q = some r ∧ q ≠ b ∧ ow q = i := fun q hq => hES i q (k2 q hq)
    let G' : Gh := { rt := fun q => if S' q then some n else if G.rt q = some n then none else G.rt q, hv := fun q => if q = n then v else G.hv q }
    have hr0 := hr
    have hn0 := hn
    have hlook : ∀ q, ((σ.setRow r (.hol f xs i c n)).setRow n (.data g ys)).look q = if q = n then some (.data g ys) else if q = r then some (.hol f xs i c n) else σ.look q := by
      intro q; rw [look_setRow, look_setRow]
    have hrtr : ∀ q, G.rt q = some r → ¬ S' q → G'.rt q = some r := by
      intro q hq hns
      show (if S' q then some n else if G.rt q = some n then none else G.rt q) = some r
      rw [if_neg hns, if_neg (by rw [hq]; simpa using hrn), hq]
    have hvn : G'.hv n = v := if_pos rfl
    have hvr : ∀ q, q ≠ n → G'.hv q = G.hv q := fun q hq => if_neg hq
    refine ⟨G', ?_, ⟨LRel.oneCell hl, fun _ _ _ => hvn.symm⟩, _, by rw [hlook, if_pos rfl]⟩
    refine hs.stepG (w' := w) (G' := G') rfl rfl (Nat.le_refl _) rfl rfl rfl (fun _ _ _ => rfl) ?_ ?_ ?_ ?_
    · intro q r' hr' hlv hq
      change (if S' q then some n else if G.rt q = some n then none else G.rt q) = some r' at hr'
      split at hr'
      · rename_i hq'
        exact ⟨r, (hS' q hq').1, _, hr0, by simp⟩
      · split at hr'
        · cases hr'
        · rename_i hnn
          refine ⟨r', hr', ?_⟩
          obtain ⟨row, m1, m2⟩ := hlv
          rw [hlook] at m1
          rw [if_neg (by rintro rfl; exact hnn hr')] at m1
          split at m1
          · rename_i e; subst e; exact ⟨_, hr0, by simp⟩
          · exact ⟨row, m1, m2⟩
    · intro q r' hr'
      change (if S' q then some n else if G.rt q = some n then none else G.rt q) = some r' at hr'
      split at hr'
      · rename_i hq'; exact hs.lt q r (hS' q hq').1
      · split at hr'
        · cases hr'
        · exact hs.lt q r' hr'
    · intro q row hq
      rw [hlook]
      split
      · exact ⟨_, rfl⟩
      · split
        · exact ⟨_, rfl⟩
        · exact ⟨_, hq⟩
    · intro q row' hq
      rw [hlook] at hq
      by_cases hqn : q = n
      · subst hqn
        rw [if_pos rfl] at hq
        obtain rfl := Option.some.inj hq
        refine .inr ⟨?_, ⟨(fun f ls e => by cases e), fun row h0 => by rw [hn0] at h0; cases h0⟩⟩
        refine rowIn (v := v) k3 hvn (fun q' hq' _ => if_pos hq') fun hdf => by rw [hd] at hdf; cases hdf
      · rw [if_neg hqn] at hq
        by_cases hqr : q = r
        · subst hqr
          rw [if_pos rfl] at hq
          obtain rfl := Option.some.inj hq
          refine .inr ⟨?_, ⟨(fun f ls e => by cases e), fun row h0 => ?_⟩⟩
          · refine ⟨hd, hi, hc, ⟨_, by rw [hlook, if_pos rfl]⟩, b, cap, arr, e, fr, ow, by rw [hvr q hqn]; exact e1, d2, hrtr b d3 fun hb => (hS' b hb).2.1 rfl, e2, d5, d6, fun j x hx => ⟨fun hj => ?_, fun hj => ?_⟩, fun _ _ _ => by rw [hvn]; exact e3⟩
            · have := d7 j x hx
              rw [hd] at this
              refine this.mono fun q' hq' => ?_
              obtain ⟨m1, m2, m3⟩ := hES j q' hq'
              unfold ESet; rw [if_pos hd]
              exact ⟨hrtr q' m1 fun hs' => hj (m3.symm.trans (hS' q' hs').2.2), m2, m3⟩
            · subst hj
              rw [getD_of (d := f.zero) hi] at hx
              obtain rfl := Option.some.inj hx
              refine k4.mono fun q' hq' => ?_
              obtain ⟨m1, m2, m3⟩ := hES j q' hq'.1
              unfold ESet; rw [if_pos hd]
              exact ⟨hrtr q' m1 hq'.2, m2, m3⟩
          · rw [hr0] at h0; obtain rfl := Option.some.inj h0
            exact ⟨⟨rfl, rfl⟩, fun _ => ⟨hvr q hqn, .inr (.inr rfl)⟩⟩
        · rw [if_neg hqr] at hq
          refine .inl ⟨hq, hvr q hqn, fun _ q' hq' => ⟨?_, rfl⟩⟩
          show (if S' q' then some n else if G.rt q' = some n then none else G.rt q') = some q
          rw [if_neg fun hs' => by rw [(hS' q' hs').1] at hq'; exact hqr (Option.some.inj hq').symm, if_neg (by rw [hq']; simpa using hqn), hq']
  · cases h
/-- a row as it is read -/
theorem rowRead {r : Nat} {f : Kd} {xs : List f.T} {h : Array Obj} {S : Nat → Prop} (hr : RowRel X σ h G r (.data f xs)) (hS : ∀ q, G.rt q = some r → S q) (hI : ∀ q, Imm X σ h G q → S q) : CRel false h (.sl f) xs [G.hv r] S := by
  simp only [CRel]
  rcases hr with ⟨rfl, e⟩ | ⟨b, cap, arr, e, fr, ow, d1, d2, d3, d4, d5, d6, d7⟩
  · exact .inl ⟨rfl, none, 0, by rw [e], by simp⟩
  · refine .inr ⟨b, 0, cap, arr, e, fr, ow, by rw [d1], d2, hS b d3, d4, by simp, fun i x hx => ?_⟩
    rw [Nat.zero_add]
    refine (d7 i x hx).toRd.mono fun q hq => ?_
    unfold ESet at hq
    split at hq
    · exact ⟨hS q hq.1, by simp⟩
    · exact ⟨hI q hq, by simp⟩
/-- the elements that a box holds, read -/
theorem ofLeavesRd (hs : Sim X σ a w G) {S : Nat → Prop} (hI : ∀ q, Imm X σ w.heap G q → S q) : ∀ {f : Kd} {ls : List Leaf} {x : f.T} {used : List Nat} {rest : List Leaf} {vs : List Value}, ofLeaves false σ.rows f ls = some (x, used, rest) →
    All2 (LRel X σ w.heap G) ls vs → (∀ r ∈ ls.flatMap Leaf.refs, σ.live r → ∀ q, G.rt q = some r → S q) → ∃ v1 v2, vs = v1 ++ v2 ∧ All2 (LRel X σ w.heap G) rest v2 ∧ CRel false w.heap f x v1 S ∧ ∀ l ∈ rest, l ∈ ls := by
  intro f
  induction f with
  | int k =>
    intro ls x used rest vs h hl hd
    cases ls with
    | nil => simp [ofLeaves] at h
    | cons l t =>
      cases l <;> simp only [ofLeaves] at h <;> try (cases h; done)
      rename_i j n
      cases hk : decide (j = k) <;> simp only [hk, cond_true, cond_false] at h
      · cases h
      · obtain ⟨rfl, hz⟩ := Prod.mk.inj (Option.some.inj h)
        obtain ⟨rfl, rfl⟩ := Prod.mk.inj hz
        cases hl with
        | cons r tl =>
          rw [decide_eq_true_eq] at hk; subst hk
          exact ⟨[_], _, rfl, tl, by simp only [CRel]; rw [r], fun l hl => List.mem_cons_of_mem _ hl⟩
  | bool =>
    intro ls x used rest vs h hl hd
    cases ls with
    | nil => simp [ofLeaves] at h
    | cons l t =>
      cases l <;> simp only [ofLeaves] at h <;> try (cases h; done)
      obtain ⟨rfl, hz⟩ := Prod.mk.inj (Option.some.inj h)
      obtain ⟨rfl, rfl⟩ := Prod.mk.inj hz
      cases hl with
      | cons r tl => exact ⟨[_], _, rfl, tl, by simp only [CRel]; rw [r], fun l hl => List.mem_cons_of_mem _ hl⟩
  | str =>
    intro ls x used rest vs h hl hd
    cases ls with
    | nil => simp [ofLeaves] at h
    | cons l t =>
      cases l <;> simp only [ofLeaves] at h <;> try (cases h; done)
      obtain ⟨rfl, hz⟩ := Prod.mk.inj (Option.some.inj h)
      obtain ⟨rfl, rfl⟩ := Prod.mk.inj hz
      cases hl with
      | cons r tl => exact ⟨[_], _, rfl, tl, by simp only [CRel]; rw [r], fun l hl => List.mem_cons_of_mem _ hl⟩
  | sl f _ =>
    intro ls x used rest vs h hl hd
    cases ls with
    | nil => simp [ofLeaves] at h
    | cons l t =>
      simp only [ofLeaves] at h
      obtain ⟨⟨ys, us⟩, hq, h⟩ := Option.bind_eq_some_iff.mp h
      obtain ⟨rfl, hz⟩ := Prod.mk.inj (Option.some.inj h)
      obtain ⟨rfl, rfl⟩ := Prod.mk.inj hz
      cases hl with
      | cons r tl =>
        refine ⟨[_], _, rfl, tl, ?_, fun l hl => List.mem_cons_of_mem _ hl⟩
        unfold slOf at hq
        split at hq
        · rename_i g zs
          simp only [cond_false] at hq
          split at hq
          · rename_i e; subst e
            obtain ⟨rfl, _⟩ := Prod.mk.inj (Option.some.inj hq)
            exact CRel.mono hI r
          · cases hq
        · obtain ⟨rfl, _⟩ := Prod.mk.inj (Option.some.inj hq)
          simp only [LRel] at r
          subst r
          simp only [CRel]
          exact .inl ⟨trivial, none, 0, rfl, fun _ => ⟨rfl, rfl⟩⟩
        · rename_i n
          split at hq
          · rename_i g zs hr
            split at hq
            · rename_i e; subst e
              obtain ⟨rfl, _⟩ := Prod.mk.inj (Option.some.inj hq)
              have hr' : σ.look n = some (.data g zs) := hr
              rw [r.2 g zs (St.dat_of hr')]
              exact rowRead (hs.row n _ hr') (hd n (by simp [Leaf.refs]) ⟨_, hr', by simp⟩) hI
            · cases hq
          · cases hq
        · cases hq
  | pair a b iha ihb =>
    intro ls x used rest vs h hl hd
    have h' : ((ofLeaves false σ.rows a ls).bind fun q => (ofLeaves false σ.rows b q.2.2).bind fun p => some ((q.1, p.1), q.2.1 ++ p.2.1, p.2.2)) = some (x, used, rest) := by
      cases ls <;> simpa [ofLeaves] using h
    obtain ⟨⟨xa, ua, ra⟩, ha, h'⟩ := Option.bind_eq_some_iff.mp h'
    obtain ⟨⟨xb, ub, rb⟩, hb, h'⟩ := Option.bind_eq_some_iff.mp h'
    obtain ⟨rfl, hz⟩ := Prod.mk.inj (Option.some.inj h')
    obtain ⟨rfl, rfl⟩ := Prod.mk.inj hz
    obtain ⟨v1, v2, rfl, k1, k2, k5⟩ := iha ha hl hd
    obtain ⟨w1, w2, rfl, m1, m2, m5⟩ := ihb hb k1 fun r hr => hd r (by
      simp only [List.mem_flatMap] at hr ⊢
      obtain ⟨l, hl, hr⟩ := hr
      exact ⟨l, k5 l hl, hr⟩)
    refine ⟨v1 ++ w1, w2, by simp, m1, ?_, fun l hl => k5 l (m5 l hl)⟩
    simp only [CRel]
    exact ⟨v1, w1, fun _ => true, rfl, k2.mono fun q hq => ⟨hq, by simp⟩, m2.mono fun q hq => ⟨hq, by simp⟩⟩
/-- the rows that leaves name are used up -/
theorem ofLeaves_named : ∀ {f : Kd} {ls : List Leaf} {p : f.T × List Nat × List Leaf}, ofLeaves false σ.rows f ls = some p → ∀ r ∈ ls.flatMap Leaf.refs, r ∈ p.2.1 ∨ r ∈ p.2.2.flatMap Leaf.refs := by
  intro f
  induction f with
  | int k =>
    intro ls p h
    cases ls with
    | nil => simp [ofLeaves] at h
    | cons l t =>
      cases l <;> simp only [ofLeaves] at h <;> try (cases h; done)
      rename_i j n
      cases hk : decide (j = k) <;> simp only [hk, cond_true, cond_false] at h
      · cases h
      · obtain rfl := Option.some.inj h
        intro r hr; simp only [List.flatMap_cons, Leaf.refs, List.nil_append] at hr; exact .inr hr
  | bool =>
    intro ls p h
    cases ls with
    | nil => simp [ofLeaves] at h
    | cons l t =>
      cases l <;> simp only [ofLeaves] at h <;> try (cases h; done)
      obtain rfl := Option.some.inj h
      intro r hr; simp only [List.flatMap_cons, Leaf.refs, List.nil_append] at hr; exact .inr hr
  | str =>
    intro ls p h
    cases ls with
    | nil => simp [ofLeaves] at h
    | cons l t =>
      cases l <;> simp only [ofLeaves] at h <;> try (cases h; done)
      obtain rfl := Option.some.inj h
      intro r hr; simp only [List.flatMap_cons, Leaf.refs, List.nil_append] at hr; exact .inr hr
  | sl f _ =>
    intro ls p h
    cases ls with
    | nil => simp [ofLeaves] at h
    | cons l t =>
      simp only [ofLeaves] at h
      obtain ⟨q, hq, h⟩ := Option.bind_eq_some_iff.mp h
      obtain rfl := Option.some.inj h
      intro r hr
      simp only [List.flatMap_cons, List.mem_append] at hr
      rcases hr with hr | hr
      · left
        cases l <;> simp only [slOf] at hq <;> try (cases hq; done)
        · simp [Leaf.refs] at hr
        · simp [Leaf.refs] at hr
        · rename_i r0
          simp [Leaf.refs] at hr
          subst hr
          split at hq
          · split at hq
            · obtain rfl := Option.some.inj hq; simp
            · cases hq
          · cases hq
      · exact .inr hr
  | pair a b iha ihb =>
    intro ls p h
    have h' : ((ofLeaves false σ.rows a ls).bind fun q => (ofLeaves false σ.rows b q.2.2).bind fun p => some ((q.1, p.1), q.2.1 ++ p.2.1, p.2.2)) = some p := by
      cases ls <;> simpa [ofLeaves] using h
    obtain ⟨q, hq, h'⟩ := Option.bind_eq_some_iff.mp h'
    obtain ⟨q2, hq2, h'⟩ := Option.bind_eq_some_iff.mp h'
    obtain rfl := Option.some.inj h'
    intro r hr
    rcases iha hq r hr with h1 | h1
    · exact .inl (List.mem_append_left _ h1)
    · rcases ihb hq2 r h1 with h2 | h2
      · exact .inl (List.mem_append_right _ h2)
      · exact .inr h2
end
end Go.Proofs.Ytalmhjlcjcnidaa.Ev

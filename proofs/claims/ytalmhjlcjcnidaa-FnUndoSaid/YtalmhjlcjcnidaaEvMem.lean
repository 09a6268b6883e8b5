/- New rows, used rows, rows written anew. -/
import Derived.Test.YtalmhjlcjcnidaaEvOps3
set_option linter.all false
namespace Go.Proofs.Ytalmhjlcjcnidaa.Ev
open Go
theorem beq_ne {m n : Nat} (h : n ≠ m) : Nat.beq m n = false := by
  cases e : Nat.beq m n
  · rfl
  · exact absurd (Nat.eq_of_beq_eq_true e).symm h
theorem look_ins (n : Nat) (v : ARow) (r : Nat) : ∀ rows : List (Nat × ARow), look r (insRow n v rows) = if r = n then some v else look r rows
  | [] => by
    simp only [insRow, look]
    by_cases h : r = n
    · subst h; simp
    · have : Nat.beq n r = false := beq_ne h
      simp [this, h]
  | (k, u) :: t => by
    simp only [insRow]
    cases h1 : Nat.blt n k <;> simp only [cond_true, cond_false]
    · cases h2 : Nat.beq k n <;> simp only [cond_true, cond_false]
      · simp only [look]
        by_cases h : r = n
        · subst h
          simp only [h2, cond_false, look_ins r v r t, if_true]
        · rw [look_ins n v r t, if_neg h, if_neg h]
      · have e : k = n := by simpa using h2
        subst e
        simp only [look]
        by_cases h : r = k
        · subst h; simp
        · have : Nat.beq k r = false := beq_ne h
          simp [this, h]
    · simp only [look]
      by_cases h : r = n
      · subst h; simp
      · have : Nat.beq n r = false := beq_ne h
        simp [this, h]
theorem look_setRow (σ : St) (n r : Nat) (v : ARow) : (σ.setRow n v).look r = if r = n then some v else σ.look r := look_ins n v r σ.rows
theorem look_kill (r : Nat) : ∀ (rs : List Nat) (σ : St), (σ.kill rs).look r = if r ∈ rs then some .dead else σ.look r := by
  have key : ∀ (rs : List Nat) (rows : List (Nat × ARow)), look r (rs.foldl (fun l r => insRow r .dead l) rows) = if r ∈ rs then some .dead else look r rows := by
    intro rs
    induction rs with
    | nil => intro rows; simp
    | cons k t ih =>
      intro rows
      simp only [List.foldl_cons, ih, look_ins, List.mem_cons]
      by_cases h1 : r ∈ t
      · simp [h1]
      · by_cases h2 : r = k <;> simp [h1, h2]
  intro rs σ
  exact key rs σ.rows
theorem kill_slots (σ : St) (rs : List Nat) : (σ.kill rs).slots = σ.slots := rfl
section
variable {P : Program} {E : Env} {X : Ctx} {σ σ' : St} {a : Act} {w w' : World} {G : Gh}
def Gh.take (G : Gh) (w w' : World) (used own : List Nat) (n : Nat) (v : Value) : Gh :=
  { rt := fun q => if q < w.heap.size then (match G.rt q with
      | some r => if r ∈ used then (if r ∈ own then some n else none) else if r = n then none else some r
      | none => none) else if q < w'.heap.size then some n else none
    hv := fun r => if r = n then v else G.hv r }
theorem Gh.take_rt {used own : List Nat} {n : Nat} {v : Value} {q : Nat} (hq : q < w.heap.size) {r : Nat} (hr : G.rt q = some r) :
    (G.take w w' used own n v).rt q = if r ∈ used then (if r ∈ own then some n else none) else if r = n then none else some r := by
  simp [Gh.take, hq, hr]
theorem Gh.take_new {used own : List Nat} {n : Nat} {v : Value} {q : Nat} (hq : ¬ q < w.heap.size) (hq' : q < w'.heap.size) : (G.take w w' used own n v).rt q = some n := by
  simp [Gh.take, hq, hq']
theorem Gh.take_hv {used own : List Nat} {n : Nat} {v : Value} : (G.take w w' used own n v).hv n = v := by simp [Gh.take]
/-- A NEW ROW, out of new blocks and of used rows' blocks. -/
theorem Sim.newRow (hs : Sim X σ a w G) {used own : List Nat} (hused : ∀ r ∈ used, ∃ f xs, σ.look r = some (.data f xs)) {n : Nat} (hn : σ.look n = none)
    (hsize : w.heap.size ≤ w'.heap.size) (hos : w'.os = w.os) (htape : w'.tape = w.tape) (hout : w'.output = w.output)
    (hfree : ∀ q, q < w.heap.size → (∀ r ∈ used, G.rt q ≠ some r) → w'.heap[q]? = w.heap[q]?) {row : ARow} {v : Value}
    (hrow : RowRel X ((σ.kill used).setRow n row) w'.heap (G.take w w' used own n v) n row)
    (hbox : ∀ f ls, row = .box f ls → ∀ q ∈ ls.flatMap Leaf.refs, ∃ row', ((σ.kill used).setRow n row).look q = some row') :
    Sim X ((σ.kill used).setRow n row) a w' (G.take w w' used own n v) := by
  have hnu : n ∉ used := fun h => by obtain ⟨f, xs, e⟩ := hused n h; rw [hn] at e; cases e
  have hlook : ∀ r, ((σ.kill used).setRow n row).look r = if r = n then some row else if r ∈ used then some .dead else σ.look r := by
    intro r; rw [look_setRow, look_kill]
  refine hs.step rfl rfl hsize hos htape hout (fun q hq hno => hfree q hq fun r hr e => ?_) ?_ ?_ ?_ ?_
  · obtain ⟨f, xs, h⟩ := hused r hr
    exact hno r e ⟨_, h, by simp⟩
  · intro q r hr hl hq
    cases hg : G.rt q with
    | none => simp [Gh.take, hq, hg] at hr
    | some r0 =>
      rw [Gh.take_rt hq hg] at hr
      refine ⟨r0, rfl, ?_⟩
      split at hr
      · rename_i hu; obtain ⟨f, xs, h⟩ := hused r0 hu; exact ⟨_, h, by simp⟩
      · rename_i hu
        split at hr
        · cases hr
        · rename_i hne
          obtain rfl := Option.some.inj hr
          obtain ⟨row', h1, h2⟩ := hl
          rw [hlook, if_neg hne, if_neg hu] at h1
          exact ⟨row', h1, h2⟩
  · intro q r hr
    by_cases hq : q < w.heap.size
    · omega
    · by_cases hq' : q < w'.heap.size
      · exact hq'
      · simp [Gh.take, hq, hq'] at hr
  · intro r row' hr
    rw [hlook]
    split
    · exact ⟨_, rfl⟩
    · split
      · exact ⟨_, rfl⟩
      · exact ⟨_, hr⟩
  · intro r row' hr
    rw [hlook] at hr
    by_cases h1 : r = n
    · subst h1
      rw [if_pos rfl] at hr
      obtain rfl := Option.some.inj hr
      exact .inr ⟨hrow, fun f ls e => hbox f ls e, fun row0 h0 => by rw [hn] at h0; cases h0⟩
    · rw [if_neg h1] at hr
      by_cases h2 : r ∈ used
      · rw [if_pos h2] at hr
        obtain rfl := Option.some.inj hr
        exact .inr ⟨trivial, fun f ls e => (by cases e), fun row0 h0 => ⟨by cases row0 <;> trivial, fun h => absurd rfl h⟩⟩
      · rw [if_neg h2] at hr
        refine .inl ⟨hr, by simp [Gh.take, h1], fun _ q hq => ?_⟩
        have hlt := hs.lt q r hq
        refine ⟨by rw [Gh.take_rt hlt hq, if_neg h2, if_neg h1], hfree q hlt fun r' hr' e => ?_⟩
        rw [hq] at e; obtain rfl := Option.some.inj e; exact h2 hr'
/-- blocks stay readable that nobody owned, and become so that used rows held -/
theorem take_imm {used own : List Nat} (hused : ∀ r ∈ used, ∃ f xs, σ.look r = some (.data f xs)) {n : Nat}
    (hsize : w.heap.size ≤ w'.heap.size) {row : ARow} {v : Value} {q : Nat} (hq : Imm X σ w.heap G q) : Imm X ((σ.kill used).setRow n row) w'.heap (G.take w w' used own n v) q := by
  obtain ⟨h1, h2, h3⟩ := hq
  refine ⟨by omega, h2, fun r hr hl => ?_⟩
  cases hg : G.rt q with
  | none => simp [Gh.take, h1, hg] at hr
  | some r0 =>
    rw [Gh.take_rt h1 hg] at hr
    split at hr
    · rename_i hu; obtain ⟨f, xs, h⟩ := hused r0 hu; exact h3 r0 hg ⟨_, h, by simp⟩
    · rename_i hu
      split at hr
      · cases hr
      · rename_i hne
        obtain rfl := Option.some.inj hr
        obtain ⟨row', k1, k2⟩ := hl
        rw [look_setRow, if_neg hne, look_kill, if_neg hu] at k1
        exact h3 r0 hg ⟨row', k1, k2⟩
/-! ### elements out of leaves -/
/-- the blocks that come with used rows -/
def OSet (X : Ctx) (σ : St) (h : Array Obj) (G : Gh) (used : List Nat) (q : Nat) : Prop :=
  (∃ r ∈ used, G.rt q = some r) ∨ (X.deep = false ∧ Imm X σ h G q)
theorem OSet.mono {h : Array Obj} {u u' : List Nat} (hu : ∀ r ∈ u, r ∈ u') {q : Nat} (hq : OSet X σ h G u q) : OSet X σ h G u' q := by
  rcases hq with ⟨r, hr, e⟩ | hq
  · exact .inl ⟨r, hu r hr, e⟩
  · exact .inr hq
theorem slOf_rel (hs : Sim X σ a w G) {f : Kd} {l : Leaf} {xs : List f.T} {used : List Nat} {v : Value} (h : slOf X.deep σ.rows f l = some (xs, used)) (hl : LRel X σ w.heap G l v) :
    CRel X.deep w.heap (.sl f) xs [v] (OSet X σ w.heap G used) ∧ (∀ r ∈ used, ∃ g ys, σ.look r = some (.data g ys)) ∧ used ⊆ l.refs := by
  unfold slOf at h
  split at h
  · rename_i g ys
    cases hd : X.deep <;> simp only [hd, cond_true, cond_false] at h
    · split at h
      · rename_i e; subst e
        obtain ⟨rfl, rfl⟩ := Prod.mk.inj (Option.some.inj h)
        refine ⟨?_, by simp, by simp⟩
        exact CRel.mono (fun q hq => .inr ⟨hd, hq⟩) hl
      · cases h
    · cases h
  · obtain ⟨rfl, rfl⟩ := Prod.mk.inj (Option.some.inj h)
    simp only [LRel] at hl
    subst hl
    refine ⟨?_, by simp, by simp⟩
    simp only [CRel]
    exact .inl ⟨trivial, none, 0, rfl, fun _ => ⟨rfl, rfl⟩⟩
  · rename_i r
    split at h
    · rename_i g ys hr
      split at h
      · rename_i e; subst e
        obtain ⟨rfl, rfl⟩ := Prod.mk.inj (Option.some.inj h)
        have hr' : σ.look r = some (.data g ys) := hr
        refine ⟨?_, by simpa using ⟨g, ys, hr'⟩, by simp [Leaf.refs]⟩
        have hv := hl.2 g ys (St.dat_of hr')
        show CRel X.deep w.heap (.sl g) ys [v] _
        simp only [CRel]
        rcases hs.row r _ hr' with ⟨rfl, e⟩ | ⟨b, cap, arr, e, fr, ow, d1, d2, d3, d4, d5, d6, d7⟩
        · exact .inl ⟨rfl, none, 0, by rw [hv, e], fun _ => ⟨rfl, rfl⟩⟩
        · refine .inr ⟨b, 0, cap, arr, e, fr, ow, by rw [hv, d1], d2, .inl ⟨r, by simp, d3⟩, d4, fun _ => ⟨rfl, d5, d6⟩, fun i x hx => ?_⟩
          rw [Nat.zero_add]
          refine (d7 i x hx).mono fun q hq => ?_
          unfold ESet at hq
          split at hq
          · exact ⟨.inl ⟨r, by simp, hq.1⟩, fun _ => hq.2⟩
          · rename_i hd
            have hd' : X.deep = false := by simpa using hd
            exact ⟨.inr ⟨hd', hq⟩, fun h => absurd h hd⟩
      · cases h
    · cases h
  · cases h
theorem distinct_append {u v : List Nat} (h : distinct (u ++ v) = true) : distinct u = true ∧ distinct v = true ∧ ∀ r ∈ u, r ∉ v := by
  induction u with
  | nil => exact ⟨by simp [distinct], h, by simp⟩
  | cons k t ih =>
    simp only [List.cons_append, distinct] at h
    cases hm : memN k (t ++ v) <;> simp only [hm, cond_true, cond_false] at h
    · obtain ⟨h1, h2, h3⟩ := ih h
      have hk : k ∉ t ++ v := by
        intro hmem
        have : ∀ l : List Nat, k ∈ l → memN k l = true := by
          intro l
          induction l with
          | nil => simp
          | cons j l ih =>
            intro hl
            simp only [memN]
            cases hb : Nat.beq j k <;> simp only [cond_true, cond_false]
            · rcases List.mem_cons.mp hl with rfl | hl
              · simp at hb
              · exact ih hl
        rw [this _ hmem] at hm; cases hm
      simp only [List.mem_append, not_or] at hk
      refine ⟨?_, h2, ?_⟩
      · simp only [distinct]
        have : memN k t = false := by
          cases hb : memN k t
          · rfl
          · have : ∀ l : List Nat, memN k l = true → k ∈ l := by
              intro l
              induction l with
              | nil => simp [memN]
              | cons j l ih =>
                simp only [memN]
                cases hb : Nat.beq j k <;> simp only [cond_true, cond_false]
                · intro h; exact List.mem_cons_of_mem _ (ih h)
                · intro _; rw [Nat.eq_of_beq_eq_true hb]; exact List.mem_cons_self ..
            exact absurd (this t hb) hk.1
        rw [this, cond_false]; exact h1
      · intro r hr
        rcases List.mem_cons.mp hr with rfl | hr
        · exact hk.2
        · exact h3 r hr
    · cases h
theorem memN_iff {k : Nat} : ∀ {l : List Nat}, memN k l = true ↔ k ∈ l
  | [] => by simp [memN]
  | j :: l => by
    simp only [memN]
    cases hb : Nat.beq j k <;> simp only [cond_true, cond_false]
    · rw [memN_iff (l := l), List.mem_cons]
      constructor
      · exact .inr
      · rintro (rfl | h)
        · simp at hb
        · exact h
    · rw [Nat.eq_of_beq_eq_true hb]; simp
theorem ofLeaves_rel (hs : Sim X σ a w G) : ∀ {f : Kd} {ls : List Leaf} {x : f.T} {used : List Nat} {rest : List Leaf} {vs : List Value}, ofLeaves X.deep σ.rows f ls = some (x, used, rest) →
    All2 (LRel X σ w.heap G) ls vs → distinct used = true → ∃ v1 v2, vs = v1 ++ v2 ∧ All2 (LRel X σ w.heap G) rest v2 ∧ CRel X.deep w.heap f x v1 (OSet X σ w.heap G used) ∧
      (∀ r ∈ used, ∃ g ys, σ.look r = some (.data g ys)) ∧ (∀ r ∈ used, r ∈ ls.flatMap Leaf.refs) ∧ ∀ l ∈ rest, l ∈ ls := by
  intro f
  induction f with
  | int k =>
    intro ls x used rest vs h hl hd
    cases ls with
    | nil => simp [ofLeaves] at h
    | cons l t =>
      cases l <;> simp only [ofLeaves] at h <;> try (cases h; done)
      rename_i j n
      cases hk : decide (j = k) <;> simp only [hk, cond_true, cond_false] at h
      · cases h
      · obtain ⟨rfl, hz⟩ := Prod.mk.inj (Option.some.inj h)
        obtain ⟨rfl, rfl⟩ := Prod.mk.inj hz
        cases hl with
        | cons r tl =>
          rw [decide_eq_true_eq] at hk; subst hk
          exact ⟨[_], _, rfl, tl, by simp only [CRel]; rw [r], by simp, by simp, fun l hl => List.mem_cons_of_mem _ hl⟩
  | bool =>
    intro ls x used rest vs h hl hd
    cases ls with
    | nil => simp [ofLeaves] at h
    | cons l t =>
      cases l <;> simp only [ofLeaves] at h <;> try (cases h; done)
      obtain ⟨rfl, hz⟩ := Prod.mk.inj (Option.some.inj h)
      obtain ⟨rfl, rfl⟩ := Prod.mk.inj hz
      cases hl with
      | cons r tl => exact ⟨[_], _, rfl, tl, by simp only [CRel]; rw [r], by simp, by simp, fun l hl => List.mem_cons_of_mem _ hl⟩
  | str =>
    intro ls x used rest vs h hl hd
    cases ls with
    | nil => simp [ofLeaves] at h
    | cons l t =>
      cases l <;> simp only [ofLeaves] at h <;> try (cases h; done)
      obtain ⟨rfl, hz⟩ := Prod.mk.inj (Option.some.inj h)
      obtain ⟨rfl, rfl⟩ := Prod.mk.inj hz
      cases hl with
      | cons r tl => exact ⟨[_], _, rfl, tl, by simp only [CRel]; rw [r], by simp, by simp, fun l hl => List.mem_cons_of_mem _ hl⟩
  | sl f _ =>
    intro ls x used rest vs h hl hd
    cases ls with
    | nil => simp [ofLeaves] at h
    | cons l t =>
      simp only [ofLeaves] at h
      obtain ⟨⟨ys, us⟩, hq, h⟩ := Option.bind_eq_some_iff.mp h
      obtain ⟨rfl, hz⟩ := Prod.mk.inj (Option.some.inj h)
      obtain ⟨rfl, rfl⟩ := Prod.mk.inj hz
      cases hl with
      | cons r tl =>
        obtain ⟨h1, h2, h3⟩ := slOf_rel hs hq r
        exact ⟨[_], _, rfl, tl, h1, h2, fun r hr => by simp only [List.flatMap_cons, List.mem_append]; exact .inl (h3 hr), fun l hl => List.mem_cons_of_mem _ hl⟩
  | pair a b iha ihb =>
    intro ls x used rest vs h hl hd
    have h' : ((ofLeaves X.deep σ.rows a ls).bind fun q => (ofLeaves X.deep σ.rows b q.2.2).bind fun p => some ((q.1, p.1), q.2.1 ++ p.2.1, p.2.2)) = some (x, used, rest) := by
      cases ls <;> simpa [ofLeaves] using h
    obtain ⟨⟨xa, ua, ra⟩, ha, h'⟩ := Option.bind_eq_some_iff.mp h'
    obtain ⟨⟨xb, ub, rb⟩, hb, h'⟩ := Option.bind_eq_some_iff.mp h'
    obtain ⟨rfl, hz⟩ := Prod.mk.inj (Option.some.inj h')
    obtain ⟨rfl, rfl⟩ := Prod.mk.inj hz
    obtain ⟨d1, d2, d3⟩ := distinct_append hd
    obtain ⟨v1, v2, rfl, k1, k2, k3, k4, k5⟩ := iha ha hl d1
    obtain ⟨w1, w2, rfl, m1, m2, m3, m4, m5⟩ := ihb hb k1 d2
    refine ⟨v1 ++ w1, w2, by simp, m1, ?_, ?_, ?_, fun l hl => k5 l (m5 l hl)⟩
    · simp only [CRel]
      refine ⟨v1, w1, fun q => match G.rt q with | some r => memN r ua | none => false, rfl, k2.mono fun q hq => ?_, m2.mono fun q hq => ?_⟩
      · refine ⟨hq.mono fun r hr => List.mem_append_left _ hr, fun hdp => ?_⟩
        rcases hq with ⟨r, hr, e⟩ | ⟨hf, _⟩
        · simp [e, memN_iff, hr]
        · rw [hdp] at hf; cases hf
      · refine ⟨hq.mono fun r hr => List.mem_append_right _ hr, fun hdp => ?_⟩
        rcases hq with ⟨r, hr, e⟩ | ⟨hf, _⟩
        · simp only [e]
          cases hm : memN r ua
          · rfl
          · exact absurd hr (d3 r (memN_iff.mp hm))
        · rw [hdp] at hf; cases hf
    · intro r hr
      rcases List.mem_append.mp hr with hr | hr
      · exact k3 r hr
      · exact m3 r hr
    · intro r hr
      rcases List.mem_append.mp hr with hr | hr
      · exact k4 r hr
      · have := m4 r hr
        simp only [List.mem_flatMap] at this ⊢
        obtain ⟨l, hl, hr⟩ := this
        exact ⟨l, k5 l hl, hr⟩
end
end Go.Proofs.Ytalmhjlcjcnidaa.Ev

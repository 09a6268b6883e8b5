/- Regions whose order is open: the single operations. -/
import Derived.Test.YtalmhjlcjcnidaaEvDraw1
set_option linter.all false
namespace Go.Proofs.Ytalmhjlcjcnidaa.Ev
open Go
section
variable {E : Env} {deep : Bool} {σ τ σ' : St} {o : Oper} {c : Bool}
theorem slOf_eq {f : Kd} {l : Leaf} (h : ∀ r ∈ l.refs, τ.look r = σ.look r) : slOf deep τ.rows f l = slOf deep σ.rows f l := by
  cases l <;> simp only [slOf]
  rename_i r
  have := h r (by simp [Leaf.refs])
  simp only [St.look] at this
  rw [this]
theorem slOf_used {f : Kd} {l : Leaf} {p : List f.T × List Nat} (h : slOf deep σ.rows f l = some p) : ∀ r ∈ p.2, r ∈ l.refs := by
  cases l <;> simp only [slOf] at h <;> try (cases h; done)
  case sh g xs =>
    cases deep <;> simp only [cond_true, cond_false] at h
    · split at h
      · obtain rfl := Option.some.inj h; simp
      · cases h
    · cases h
  case nil => obtain rfl := Option.some.inj h; simp
  case ow r =>
    split at h
    · split at h
      · obtain rfl := Option.some.inj h; simp [Leaf.refs]
      · cases h
    · cases h
theorem ofLeaves_rest : ∀ {f : Kd} {ls : List Leaf} {p : f.T × List Nat × List Leaf}, ofLeaves deep σ.rows f ls = some p → (∀ l ∈ p.2.2, l ∈ ls) ∧ ∀ r ∈ p.2.1, r ∈ ls.flatMap Leaf.refs := by
  intro f
  induction f with
  | int k =>
    intro ls p h
    cases ls with
    | nil => simp [ofLeaves] at h
    | cons l t =>
      cases l <;> simp only [ofLeaves] at h <;> try (cases h; done)
      rename_i j n
      cases hk : decide (j = k) <;> simp only [hk, cond_true, cond_false] at h
      · cases h
      · obtain rfl := Option.some.inj h
        exact ⟨fun l hl => List.mem_cons_of_mem _ hl, by simp⟩
  | bool =>
    intro ls p h
    cases ls with
    | nil => simp [ofLeaves] at h
    | cons l t =>
      cases l <;> simp only [ofLeaves] at h <;> try (cases h; done)
      obtain rfl := Option.some.inj h
      exact ⟨fun l hl => List.mem_cons_of_mem _ hl, by simp⟩
  | str =>
    intro ls p h
    cases ls with
    | nil => simp [ofLeaves] at h
    | cons l t =>
      cases l <;> simp only [ofLeaves] at h <;> try (cases h; done)
      obtain rfl := Option.some.inj h
      exact ⟨fun l hl => List.mem_cons_of_mem _ hl, by simp⟩
  | sl f _ =>
    intro ls p h
    cases ls with
    | nil => simp [ofLeaves] at h
    | cons l t =>
      simp only [ofLeaves] at h
      obtain ⟨q, hq, h⟩ := Option.bind_eq_some_iff.mp h
      obtain rfl := Option.some.inj h
      refine ⟨fun l hl => List.mem_cons_of_mem _ hl, fun r hr => ?_⟩
      simp only [List.flatMap_cons, List.mem_append]
      exact .inl (slOf_used hq r hr)
  | pair a b iha ihb =>
    intro ls p h
    have h' : ((ofLeaves deep σ.rows a ls).bind fun q => (ofLeaves deep σ.rows b q.2.2).bind fun p => some ((q.1, p.1), q.2.1 ++ p.2.1, p.2.2)) = some p := by
      cases ls <;> simpa [ofLeaves] using h
    obtain ⟨q, ha, h'⟩ := Option.bind_eq_some_iff.mp h'
    obtain ⟨q2, hb, h'⟩ := Option.bind_eq_some_iff.mp h'
    obtain rfl := Option.some.inj h'
    obtain ⟨a1, a2⟩ := iha ha
    obtain ⟨b1, b2⟩ := ihb hb
    refine ⟨fun l hl => a1 l (b1 l hl), fun r hr => ?_⟩
    rcases List.mem_append.mp hr with hr | hr
    · exact a2 r hr
    · have := b2 r hr
      simp only [List.mem_flatMap] at this ⊢
      obtain ⟨l, hl, hr⟩ := this
      exact ⟨l, a1 l hl, hr⟩
theorem ofLeaves_eq : ∀ {f : Kd} {ls : List Leaf}, (∀ r ∈ ls.flatMap Leaf.refs, τ.look r = σ.look r) → ofLeaves deep τ.rows f ls = ofLeaves deep σ.rows f ls := by
  intro f
  induction f with
  | int k =>
    intro ls _
    cases ls with
    | nil => rfl
    | cons l t => cases l <;> rfl
  | bool =>
    intro ls _
    cases ls with
    | nil => rfl
    | cons l t => cases l <;> rfl
  | str =>
    intro ls _
    cases ls with
    | nil => rfl
    | cons l t => cases l <;> rfl
  | sl f _ =>
    intro ls h
    cases ls with
    | nil => rfl
    | cons l t =>
      simp only [ofLeaves]
      rw [slOf_eq (σ := σ) (τ := τ) fun r hr => h r (by simp only [List.flatMap_cons, List.mem_append]; exact .inl hr)]
  | pair a b iha ihb =>
    intro ls h
    have e : ∀ ρ : St, ofLeaves deep ρ.rows (.pair a b) ls = ((ofLeaves deep ρ.rows a ls).bind fun q => (ofLeaves deep ρ.rows b q.2.2).bind fun p => some ((q.1, p.1), q.2.1 ++ p.2.1, p.2.2)) := by
      intro ρ; cases ls <;> simp [ofLeaves]
    rw [e τ, e σ, iha h]
    cases ha : ofLeaves deep σ.rows a ls with
    | none => rfl
    | some q =>
      simp only [Option.bind_some]
      rw [ihb fun r hr => h r (by
        simp only [List.mem_flatMap] at hr ⊢
        obtain ⟨l, hl, hr⟩ := hr
        exact ⟨l, (ofLeaves_rest ha).1 l hl, hr⟩)]
theorem roLeaf_eq {l : Leaf} (h : ∀ r ∈ l.refs, ∀ q ∈ σ.below r, τ.look q = σ.look q) : roLeaf τ l = roLeaf σ l := by
  cases l <;> simp only [roLeaf]
  case ow r => rw [h r (by simp [Leaf.refs]) r (below_self r)]
  case sub r _ _ => rw [h r (by simp [Leaf.refs]) r (below_self r)]
  case pa r _ _ => rw [h r (by simp [Leaf.refs]) r (below_self r)]
  case clo g caps =>
    congr 1
    have hc : ∀ cp ∈ caps, ∀ r, cp = .own r → ∀ q ∈ σ.below r, τ.look q = σ.look q := fun cp hcp r e => h r (by
      simp only [Leaf.refs, List.mem_filterMap]
      exact ⟨cp, hcp, by rw [e]⟩)
    clear h
    induction caps with
    | nil => rfl
    | cons cp t ih =>
      rw [List.mapM_cons, List.mapM_cons, ih fun cp hcp => hc cp (List.mem_cons_of_mem _ hcp)]
      congr 1
      cases cp with
      | sh f x => rfl
      | own r =>
        have hb := hc (.own r) (List.mem_cons_self ..) r rfl
        simp only
        rw [hb r (below_self r)]
        split
        · rename_i f ls hr
          rw [ofLeaves_eq (σ := σ) (τ := τ) fun q hq => hb q (by unfold St.below; rw [hr]; exact List.mem_cons_of_mem _ hq)]
        · rfl
theorem loadLeaves_eq {n : Nat} {l : Leaf} (h : ∀ r ∈ l.refs, τ.look r = σ.look r) : loadLeaves deep τ n l = loadLeaves deep σ n l := by
  cases l <;> simp only [loadLeaves]
  rename_i r i c
  rw [h r (by simp [Leaf.refs])]
theorem load_q {t : Nat} {a : Operand} (hx : τ.ev1 a = σ.ev1 a) (hl : ∀ l, σ.ev1 a = some l → ∀ r ∈ l.refs, τ.look r = σ.look r) (h : opLoad E deep o t a σ = some (c, σ')) : Quiet o σ σ' τ (opLoad E deep o t a) c := by
  unfold opLoad at h
  obtain ⟨x, h1, h2⟩ := Option.bind_eq_some_iff.mp h
  obtain ⟨rfl, rfl⟩ := Prod.mk.inj (Option.some.inj h2)
  refine ⟨.v x, rfl, ?_⟩
  unfold opLoad
  have : loadT E deep t a τ = some x := by
    unfold loadT at h1 ⊢
    rw [hx]
    split at h1
    · rename_i i l _ hl'
      rw [loadLeaves_eq (hl l hl')]; exact h1
    · cases h1
  rw [this]; rfl
theorem pick_q {p a b : Operand} (h1 : τ.ev p = σ.ev p) (h2 : τ.ev a = σ.ev a) (h3 : τ.ev b = σ.ev b) (h : opPick o p a b σ = some (c, σ')) : Quiet o σ σ' τ (opPick o p a b) c := by
  unfold Quiet
  unfold opPick at h ⊢
  unfold St.ev1 at h ⊢
  rw [h1, h2, h3]
  split at h
  all_goals first
    | (cases h; done)
    | (simp only [St.put1, okS, Option.some.injEq, Prod.mk.injEq] at h ⊢; obtain ⟨rfl, rfl⟩ := h; exact ⟨_, rfl, by first | trivial | simp_all⟩)
theorem nil_q {x : Operand} (hx : τ.ev1 x = σ.ev1 x) (hl : ∀ l, σ.ev1 x = some l → ∀ r ∈ l.refs, τ.look r = σ.look r) (h : opNilCheck o x σ = some (c, σ')) : Quiet o σ σ' τ (opNilCheck o x) c := by
  unfold Quiet
  unfold opNilCheck at h ⊢
  rw [hx]
  split at h
  · rename_i r i k hr
    try simp only [hr]
    rw [hl _ hr r (by simp [Leaf.refs])]
    split at h
    · rename_i h'; try simp only [h']
      simp only [St.put1, okS, Option.some.injEq, Prod.mk.injEq] at h; obtain ⟨rfl, rfl⟩ := h; exact ⟨_, rfl, rfl⟩
    · rename_i h'; try simp only [h']
      simp only [St.put1, okS, Option.some.injEq, Prod.mk.injEq] at h; obtain ⟨rfl, rfl⟩ := h; exact ⟨_, rfl, rfl⟩
    · rename_i h'; try simp only [h']
      simp only [St.put1, okS, Option.some.injEq, Prod.mk.injEq] at h; obtain ⟨rfl, rfl⟩ := h; exact ⟨_, rfl, rfl⟩
    · cases h
  · rename_i hr; try simp only [hr]
    simp only [St.put1, okS, Option.some.injEq, Prod.mk.injEq] at h; obtain ⟨rfl, rfl⟩ := h; exact ⟨_, rfl, rfl⟩
  · rename_i hr; try simp only [hr]
    simp only [St.put1, okS, Option.some.injEq, Prod.mk.injEq] at h; obtain ⟨rfl, rfl⟩ := h; exact ⟨_, rfl, rfl⟩
  · cases h
theorem un_q {op : UnOp} {x : Operand} (hx : τ.ev1 x = σ.ev1 x) (h : opUn o op x σ = some (c, σ')) : Quiet o σ σ' τ (opUn o op x) c := by
  unfold Quiet
  unfold opUn at h ⊢
  rw [hx]
  split at h
  · rename_i hr; try simp only [hr]
    simp only [St.put1, okS, Option.some.injEq, Prod.mk.injEq] at h; obtain ⟨rfl, rfl⟩ := h; exact ⟨_, rfl, rfl⟩
  · rename_i hr; try simp only [hr]
    simp only [St.put1, okS, Option.some.injEq, Prod.mk.injEq] at h; obtain ⟨rfl, rfl⟩ := h; exact ⟨_, rfl, rfl⟩
  · cases h
theorem bin_q {op : BinOp} {t : Nat} {x y : Operand} (hx : τ.ev x = σ.ev x) (hy : τ.ev y = σ.ev y) (h : opBin E o op t x y σ = some (c, σ')) : Quiet o σ σ' τ (opBin E o op t x y) c := by
  have key : ∀ (u v : Option AV) (f g : Option (Bool × St)), f = g → f = some (c, σ') → g = some (c, σ') := fun _ _ _ _ e h => e ▸ h
  unfold Quiet
  unfold opBin at h ⊢
  rw [hx, hy]
  generalize σ.ev x = u at h ⊢
  generalize σ.ev y = v at h ⊢
  split at h
  · rename_i k a j b
    cases op <;> simp only at h ⊢
    all_goals first
      | (simp only [Option.some.injEq, Prod.mk.injEq] at h; obtain ⟨rfl, rfl⟩ := h; exact ⟨_, rfl, rfl⟩)
      | (cases hd : decide (k = j) <;> simp only [hd, cond_true, cond_false] at h ⊢ <;> first
          | (cases h; done)
          | (simp only [St.put1, okS, Option.some.injEq, Prod.mk.injEq] at h; obtain ⟨rfl, rfl⟩ := h; exact ⟨_, rfl, rfl⟩))
  · rename_i a b
    cases op <;> simp only at h ⊢
    all_goals first
      | (cases h; done)
      | (simp only [St.put1, okS, Option.some.injEq, Prod.mk.injEq] at h; obtain ⟨rfl, rfl⟩ := h; exact ⟨_, rfl, rfl⟩)
  · rename_i a b
    cases hd : E.isBool t <;> simp only [hd, cond_true, cond_false] at h ⊢
    · cases h
    · cases op <;> simp only at h ⊢
      all_goals first
        | (cases h; done)
        | (simp only [St.put1, okS, Option.some.injEq, Prod.mk.injEq] at h; obtain ⟨rfl, rfl⟩ := h; exact ⟨_, rfl, rfl⟩)
  · rename_i a b
    cases hi : E.ty t with
    | none => rw [hi] at h; cases h
    | some i =>
      rw [hi] at h
      simp only at h ⊢
      generalize (memN t E.eqT && kdIs i.kd a && kdIs i.kd b) = bb at h ⊢
      cases bb <;> simp only [cond_true, cond_false] at h ⊢
      · cases h
      · cases op <;> simp only at h ⊢
        all_goals first
          | (cases h; done)
          | (obtain ⟨e, he, h⟩ := Option.bind_eq_some_iff.mp h
             simp only [St.put1, okS, Option.some.injEq, Prod.mk.injEq] at h; obtain ⟨rfl, rfl⟩ := h; exact ⟨_, rfl, by rw [he]; rfl⟩)
  · cases h
theorem fieldAddr_q {s : Nat} {x : Operand} {f : Nat} (hx : τ.ev1 x = σ.ev1 x) (hl : ∀ l, σ.ev1 x = some l → ∀ r ∈ l.refs, τ.look r = σ.look r) (h : opFieldAddr E o s x f σ = some (c, σ')) : Quiet o σ σ' τ (opFieldAddr E o s x f) c := by
  unfold Quiet
  unfold opFieldAddr at h ⊢
  rw [hx]
  split at h
  · rename_i i l hi hr
    try simp only [hr]
    obtain ⟨d, hd, h⟩ := Option.bind_eq_some_iff.mp h
    simp only [hd, Option.bind_some]
    cases l <;> simp only at h ⊢ <;> try (cases h; done)
    · rename_i r j k _
      rw [hl _ hr r (by simp [Leaf.refs])]
      split at h
      · rename_i h'; try simp only [h']
        simp only [St.put1, okS, Option.some.injEq, Prod.mk.injEq] at h; obtain ⟨rfl, rfl⟩ := h; exact ⟨_, rfl, rfl⟩
      · rename_i h'; try simp only [h']
        simp only [St.put1, okS, Option.some.injEq, Prod.mk.injEq] at h; obtain ⟨rfl, rfl⟩ := h; exact ⟨_, rfl, rfl⟩
      · rename_i h'; try simp only [h']
        simp only [St.put1, okS, Option.some.injEq, Prod.mk.injEq] at h; obtain ⟨rfl, rfl⟩ := h; exact ⟨_, rfl, rfl⟩
      · cases h
    · simp only [St.put1, okS, Option.some.injEq, Prod.mk.injEq] at h; obtain ⟨rfl, rfl⟩ := h; exact ⟨_, rfl, rfl⟩
  · cases h
theorem indexAddr_q {t : Nat} {x i : Operand} (hx : τ.ev1 x = σ.ev1 x) (hi : τ.ev1 i = σ.ev1 i) (hl : ∀ l, σ.ev1 x = some l → ∀ r ∈ l.refs, τ.look r = σ.look r) (h : opIndexAddr0 E o t x i σ = some (c, σ')) : Quiet o σ σ' τ (opIndexAddr0 E o t x i) c := by
  unfold Quiet
  unfold opIndexAddr0 at h ⊢
  rw [hx, hi]
  split at h
  · rename_i h1 h2
    try simp only [h1, h2]
    rename_i k n f xs
    cases hb : E.isEl t f <;> simp only [hb, cond_true, cond_false] at h ⊢
    · cases h
    · simp only [Option.some.injEq, Prod.mk.injEq] at h; obtain ⟨rfl, rfl⟩ := h; exact ⟨_, rfl, rfl⟩
  · rename_i h1 h2
    try simp only [h1, h2]
    rename_i k n r
    rw [hl _ h2 r (by simp [Leaf.refs])]
    split at h
    · rename_i f xs hr
      try simp only [hr]
      cases hb : E.isEl t f <;> simp only [hb, cond_true, cond_false] at h ⊢
      · cases h
      · simp only [Option.some.injEq, Prod.mk.injEq] at h; obtain ⟨rfl, rfl⟩ := h; exact ⟨_, rfl, rfl⟩
    · rename_i f xs _ _ _ hr
      try simp only [hr]
      cases hb : E.isEl t f <;> simp only [hb, cond_true, cond_false] at h ⊢
      · cases h
      · simp only [Option.some.injEq, Prod.mk.injEq] at h; obtain ⟨rfl, rfl⟩ := h; exact ⟨_, rfl, rfl⟩
    · cases h
  · rename_i h1 h2
    try simp only [h1, h2]
    rename_i k n r off len
    rw [hl _ h2 r (by simp [Leaf.refs])]
    split at h
    · rename_i f xs hr
      try simp only [hr]
      cases hb : E.isEl t f <;> simp only [hb, cond_true, cond_false] at h ⊢
      · cases h
      · simp only [Option.some.injEq, Prod.mk.injEq] at h; obtain ⟨rfl, rfl⟩ := h; exact ⟨_, rfl, rfl⟩
    · cases h
  · cases h
theorem index_q {t : Nat} {x i : Operand} (hx : τ.ev1 x = σ.ev1 x) (hi : τ.ev1 i = σ.ev1 i) (h : opIndex E o t x i σ = some (c, σ')) : Quiet o σ σ' τ (opIndex E o t x i) c := by
  unfold Quiet
  unfold opIndex at h ⊢
  rw [hx, hi]
  split at h
  · rename_i h1 h2
    try simp only [h1, h2]
    cases hb : E.isStr t <;> simp only [hb, cond_true, cond_false] at h ⊢
    · cases h
    · simp only [Option.some.injEq, Prod.mk.injEq] at h; obtain ⟨rfl, rfl⟩ := h; exact ⟨_, rfl, rfl⟩
  · cases h
theorem extract_q {x : Operand} {k : Nat} (hx : τ.ev x = σ.ev x) (h : opExtract o x k σ = some (c, σ')) : Quiet o σ σ' τ (opExtract o x k) c := by
  unfold Quiet
  unfold opExtract at h ⊢
  rw [hx]
  split at h
  · rename_i vs hv
    try simp only [hv]
    split at h
    · rename_i y hy
      try simp only [hy]
      simp only [okS, Option.some.injEq, Prod.mk.injEq] at h; obtain ⟨rfl, rfl⟩ := h; exact ⟨_, rfl, rfl⟩
    · cases h
  · cases h
theorem bound_eq {x : Option Operand} {d : Nat} (h : ∀ y, x = some y → τ.ev1 y = σ.ev1 y) : bound τ x d = bound σ x d := by
  cases x with
  | none => rfl
  | some y => simp only [bound]; rw [h y rfl]
theorem slice_q {t : Nat} {x : Operand} {lo hi mx : Option Operand} (hx : τ.ev1 x = σ.ev1 x) (hlo : ∀ y, lo = some y → τ.ev1 y = σ.ev1 y) (hhi : ∀ y, hi = some y → τ.ev1 y = σ.ev1 y)
    (hl : ∀ l, σ.ev1 x = some l → ∀ r ∈ l.refs, τ.look r = σ.look r) (h : opSlice E o t x lo hi mx σ = some (c, σ')) : Quiet o σ σ' τ (opSlice E o t x lo hi mx) c := by
  unfold Quiet
  unfold opSlice at h ⊢
  simp only [bound_eq (σ := σ) (τ := τ) hlo, bound_eq (σ := σ) (τ := τ) hhi]
  rw [hx]
  split at h
  · rename_i h1
    try simp only [h1]
    cases hb : E.isStr t <;> simp only [hb, cond_true, cond_false] at h ⊢
    · cases h
    · split at h
      · rename_i h2 h3
        try simp only [h2, h3]
        simp only [Option.some.injEq, Prod.mk.injEq] at h; obtain ⟨rfl, rfl⟩ := h; exact ⟨_, rfl, rfl⟩
      · cases h
  · rename_i f xs h1
    try simp only [h1]
    cases hb : E.isEl t f <;> simp only [hb, cond_true, cond_false] at h ⊢
    · cases h
    · split at h
      · rename_i h2 h3
        try simp only [h2, h3]
        simp only [Option.some.injEq, Prod.mk.injEq] at h; obtain ⟨rfl, rfl⟩ := h; exact ⟨_, rfl, rfl⟩
      · cases h
  · rename_i r h1
    try simp only [h1]
    rw [hl _ h1 r (by simp [Leaf.refs])]
    split at h
    · rename_i f xs hr
      try simp only [hr]
      cases hb : E.isEl t f <;> simp only [hb, cond_true, cond_false] at h ⊢
      · cases h
      · split at h
        · rename_i h2 h3
          try simp only [h2, h3]
          simp only [Option.some.injEq, Prod.mk.injEq] at h; obtain ⟨rfl, rfl⟩ := h; exact ⟨_, rfl, rfl⟩
        · cases h
    · cases h
  · rename_i r off len h1
    try simp only [h1]
    rw [hl _ h1 r (by simp [Leaf.refs])]
    split at h
    · rename_i f xs hr
      try simp only [hr]
      cases hb : E.isEl t f <;> simp only [hb, cond_true, cond_false] at h ⊢
      · cases h
      · split at h
        · rename_i h2 h3
          try simp only [h2, h3]
          simp only [Option.some.injEq, Prod.mk.injEq] at h; obtain ⟨rfl, rfl⟩ := h; exact ⟨_, rfl, rfl⟩
        · cases h
    · cases h
  · cases h
theorem len_q {t : Nat} {x : Operand} (hx : τ.ev1 x = σ.ev1 x) (hl : ∀ l, σ.ev1 x = some l → ∀ r ∈ l.refs, τ.look r = σ.look r) (h : opLen E o t x σ = some (c, σ')) : Quiet o σ σ' τ (opLen E o t x) c := by
  have fin : ∀ {l : Leaf} {b : Bool}, (bif b then σ.put1 o l else none) = some (c, σ') → ∃ av, σ' = σ.put o.dst av ∧ (bif b then τ.put1 o l else none) = some (c, τ.put o.dst av) := by
    intro l b h
    cases b <;> simp only [cond_true, cond_false] at h ⊢
    · cases h
    · simp only [St.put1, okS, Option.some.injEq, Prod.mk.injEq] at h; obtain ⟨rfl, rfl⟩ := h; exact ⟨_, rfl, rfl⟩
  unfold Quiet
  unfold opLen at h ⊢
  rw [hx]
  split at h
  · rename_i h1; (try simp only [h1]); exact fin h
  · rename_i h1; (try simp only [h1]); exact fin h
  · rename_i h1; (try simp only [h1]); exact fin h
  · rename_i r h1
    try simp only [h1]
    rw [hl _ h1 r (by simp [Leaf.refs])]
    split at h
    · rename_i h2; (try simp only [h2]); exact fin h
    · cases h
  · rename_i r _ _ h1
    try simp only [h1]
    rw [hl _ h1 r (by simp [Leaf.refs])]
    split at h
    · rename_i h2; (try simp only [h2]); exact fin h
    · cases h
  · rename_i r _ _ h1
    try simp only [h1]
    rw [hl _ h1 r (by simp [Leaf.refs])]
    split at h
    · rename_i h2
      try simp only [h2]
      split at h
      · rename_i h3; (try simp only [h3]); exact fin h
      · cases h
    · cases h
  · cases h
theorem max_q {x y : Operand} (hx : τ.ev1 x = σ.ev1 x) (hy : τ.ev1 y = σ.ev1 y) (h : opMax o x y σ = some (c, σ')) : Quiet o σ σ' τ (opMax o x y) c := by
  unfold Quiet
  unfold opMax at h ⊢
  rw [hx, hy]
  split at h
  · rename_i h1 h2; try simp only [h1, h2]
    simp only [St.put1, okS, Option.some.injEq, Prod.mk.injEq] at h; obtain ⟨rfl, rfl⟩ := h; exact ⟨_, rfl, rfl⟩
  · cases h
end
end Go.Proofs.Ytalmhjlcjcnidaa.Ev

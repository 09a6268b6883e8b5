/- Calls: the caller's arguments. -/
import Derived.Test.YtalmhjlcjcnidaaEvCall
set_option linter.all false
namespace Go.Proofs.Ytalmhjlcjcnidaa.Ev
open Go
section
variable {P : Program} {E : Env} {X : Ctx} {σ σ' : St} {a : Act} {w w' : World} {G : Gh}
theorem Sim.pa2 (hs : Sim X σ a w G) {r i c : Nat} {f : Kd} {xs : List f.T} {g : Kd} {ys : List g.T} {v : Value} (hl : LRel X σ w.heap G (.pa r i c) v) (hr : σ.look r = some (.data f xs))
    (hc : cellSl f (xs.getD i f.zero) c = some ⟨g, ys⟩) : ∃ S, CRel X.deep w.heap (.sl g) ys [v] S ∧ (∀ q, S q → G.rt q = some r ∨ Imm X σ w.heap G q) := by
  obtain ⟨hi, hcs, b, n, cap, arr, e, fr, e1, e2, e3⟩ := hl.2 f xs (St.dat_of hr)
  rcases hs.row r _ hr with ⟨_, e'⟩ | ⟨b', cap', arr', e', fr', ow, d1, d2, d3, d4, d5, d6, d7⟩
  · rw [e1] at e'; simp at e'
  · rw [e1] at d1; simp at d1; obtain ⟨rfl, _⟩ := d1
    rw [e2] at d4; obtain ⟨rfl, rfl, rfl⟩ : arr = arr' ∧ e = e' ∧ fr = fr' := by simpa using d4
    have hx : xs[i]? = some xs[i] := List.getElem?_eq_getElem hi
    have hg : xs.getD i f.zero = xs[i] := by simp [List.getD, hx]
    rw [hg] at hc
    obtain ⟨u, hu, S', hS, hr'⟩ := (d7 i _ hx).cell hc
    rw [seg_get hcs, e3] at hu
    obtain rfl := Option.some.inj hu
    refine ⟨S', hr', fun q hq => ?_⟩
    have := hS q hq
    unfold ESet at this
    split at this
    · exact .inl this.1
    · exact .inr this
theorem SptS.mono {S S' : Nat → Prop} {h : Array Obj} {f : Kd} {x : f.T} {c : Nat} {v : Value} (hS : ∀ q, S q → S' q) (hl : SptS S h f x c v) : SptS S' h f x c v := by
  obtain ⟨b, o, arr, e, fr, h1, h2, h3, h4⟩ := hl
  exact ⟨b, o, arr, e, fr, h1, h2, hS _ h3, h4.mono hS⟩
theorem mem_below {r q : Nat} (h : q = r) : q ∈ σ.below r := by
  subst h; unfold St.below; split <;> simp
theorem ro_rel (hs : Sim X σ a w G) {S : Nat → Prop} {ow : Nat → Option Nat} {j : Nat} {l m : Leaf} {v : Value} (h : roLeaf σ l = some m) (hl : LRel X σ w.heap G l v)
    (hS : ∀ r ∈ l.refs.flatMap σ.below, σ.live r → ∀ q, G.rt q = some r → S q) (hI : ∀ q, Imm X σ w.heap G q → S q) : LA S ow w.heap j m v := by
  cases l <;> simp only [roLeaf] at h <;> try (cases h; done)
  case int => obtain rfl := Option.some.inj h; exact hl
  case bool => obtain rfl := Option.some.inj h; exact hl
  case str => obtain rfl := Option.some.inj h; exact hl
  case sh => obtain rfl := Option.some.inj h; exact CRel.mono hI hl
  case spt => obtain rfl := Option.some.inj h; exact SptS.mono hI hl
  case ow r =>
    split at h
    · rename_i f xs hr
      obtain rfl := Option.some.inj h
      rw [hl.2 f xs (St.dat_of hr)]
      exact rowRead (hs.row r _ hr) (hS r (by simp [Leaf.refs]; exact mem_below rfl) ⟨_, hr, by simp⟩) hI
    · cases h
  case sub r off len =>
    split at h
    · rename_i f xs hr
      obtain rfl := Option.some.inj h
      exact subRead (hs.row r _ hr) hr hl (hS r (by simp [Leaf.refs]; exact mem_below rfl) ⟨_, hr, by simp⟩) hI
    · cases h
  case pa r i c =>
    split at h
    · rename_i f xs hr
      obtain ⟨p, hp, rfl⟩ := Option.map_eq_some_iff.mp h
      obtain ⟨S', h1, h2⟩ := hs.pa2 (g := p.1) (ys := p.2) hl hr hp
      refine CRel.mono (fun q hq => ?_) h1.toRd
      rcases h2 q hq with h | h
      · exact hS r (by simp [Leaf.refs]; exact mem_below rfl) ⟨_, hr, by simp⟩ q h
      · exact hI q h
    · cases h
  case clo g caps =>
    obtain ⟨cs, hcs, rfl⟩ := Option.map_eq_some_iff.mp h
    obtain ⟨vs, e, hv⟩ := hl
    refine ⟨vs, e, ?_⟩
    have hS' : ∀ c ∈ caps, ∀ r, c = .own r → ∀ r' ∈ σ.below r, σ.live r' → ∀ q, G.rt q = some r' → S q := by
      intro c hc r e r' hr' 
      refine hS r' ?_
      simp only [List.mem_flatMap, Leaf.refs, List.mem_filterMap]
      exact ⟨r, ⟨c, hc, by rw [e]⟩, hr'⟩
    clear hS h e
    induction hv generalizing cs with
    | nil => simp at hcs; subst hcs; exact .nil
    | cons hc _ ih =>
      rw [List.mapM_cons] at hcs
      obtain ⟨c', hc', hcs⟩ := Option.bind_eq_some_iff.mp hcs
      obtain ⟨cs', hcs', hcs⟩ := Option.bind_eq_some_iff.mp hcs
      obtain rfl := Option.some.inj hcs
      refine .cons ?_ (ih _ hcs' fun c hc => hS' c (List.mem_cons_of_mem _ hc))
      split at hc'
      · obtain rfl := Option.some.inj hc'
        exact SptS.mono hI hc
      · rename_i r
        split at hc'
        · rename_i f ls hr
          obtain ⟨⟨x, us, rest⟩, hx, hc'⟩ := Option.bind_eq_some_iff.mp hc'
          dsimp only at hc'
          split at hc'
          · rename_i hrest
            obtain rfl := Option.some.inj hc'
            obtain ⟨b, arr, e, fr, d1, d2, d3, d4, d5, d6⟩ := hs.row r _ hr
            have hbel := hS' _ (List.mem_cons_self ..) r rfl
            obtain ⟨v1, v2, k1, k2, k3, _⟩ := ofLeavesRd hs hI hx d6 fun r' hr' => hbel r' (by unfold St.below; rw [hr]; simp only [List.mem_cons, ARow.refs]; exact .inr hr')
            cases k2
            rw [List.append_nil] at k1
            rw [hc.2 f ls hr, d1]
            refine ⟨b, 0, arr, e, fr, rfl, d3, hbel r (mem_below rfl) ⟨_, hr, by simp⟩ b d2, ?_⟩
            have : seg arr 0 f.size = v1 := by
              simp only [seg, List.drop_zero]
              rw [k1, ← k3.len, List.take_length]
            rw [this]; exact k3
          · cases hc'
        · cases hc'
theorem od_rel (hs : Sim X σ a w G) {S : Nat → Prop} {ow : Nat → Option Nat} {j : Nat} {l m : Leaf} {v : Value} (h : odLeaf X.deep σ l = some m) (hl : LRel X σ w.heap G l v)
    (hT : ∀ r ∈ l.refs, ∀ q, G.rt q = some r → ow q = some j) (hI : ∀ q, Imm X σ w.heap G q → S q) : LA S ow w.heap j m v := by
  cases l <;> simp only [odLeaf] at h <;> try (cases h; done)
  case int => obtain rfl := Option.some.inj h; exact hl
  case bool => obtain rfl := Option.some.inj h; exact hl
  case str => obtain rfl := Option.some.inj h; exact hl
  case sh => obtain rfl := Option.some.inj h; exact CRel.mono hI hl
  case ow r =>
    split at h
    · rename_i f xs hr
      cases hd : X.deep || f.flat <;> simp only [hd, cond_true, cond_false] at h
      · cases h
      obtain rfl := Option.some.inj h
      rw [hl.2 f xs (St.dat_of hr)]
      exact rowOut (hs.row r _ hr) hd (hT r (by simp [Leaf.refs]))
    · cases h
/-! ### the arguments -/
theorem ev1_ev' {x : Operand} {l : Leaf} (h : σ.ev1 x = some l) : σ.ev x = some (.v (.one l)) := by
  unfold St.ev1 at h
  split at h
  · obtain rfl := Option.some.inj h; assumption
  · cases h
theorem bxOf {deep : Bool} {f : Kd} {x : Operand} {z : TV} (h : argOf deep σ (.bx f) x = some z) : ∃ r ls, σ.ev1 x = some (.ptr r 0 0) ∧ σ.look r = some (.box f ls) ∧ ∃ ms, ls.mapM (odLeaf deep σ) = some ms ∧ z = .agg ms := by
  simp only [argOf] at h
  split at h
  · rename_i r hx
    split at h
    · rename_i g ls hr
      cases hd : decide (g = f) <;> simp only [hd, cond_true, cond_false] at h
      · cases h
      rw [decide_eq_true_eq] at hd
      subst hd
      obtain ⟨ms, h1, h2⟩ := Option.map_eq_some_iff.mp h
      exact ⟨r, ls, hx, hr, ms, h1, h2.symm⟩
    · cases h
  · cases h
/-- the rows handed over: the place in them, and the number -/
def idxL (dst : Option Nat) : Nat → List Leaf → List (Nat × (Option (Nat × Nat) × Nat))
  | _, [] => []
  | j, l :: t => (match l with
    | .pa r i c => [(r, (some (i, c), key dst j))]
    | l => l.refs.map fun r => (r, (none, key dst j))) ++ idxL dst (j + 1) t
def idxArgs (σ : St) (ms : List Md) : Nat → List Operand → List (Nat × (Option (Nat × Nat) × Nat))
  | _, [] => []
  | i, x :: xs => (match modeAt ms i, σ.ev x with
      | .give, some a => idxL (some i) 0 a.leaves
      | .io, some a => idxL (some i) 0 a.leaves
      | .bx _, some (.v (.one (.ptr r _ _))) => (match σ.look r with
        | some (.box _ ls) => (r, (none, key (some i) 63)) :: idxL (some i) 0 ls
        | _ => [])
      | _, _ => []) ++ idxArgs σ ms (i + 1) xs
theorem idxL_fst (dst : Option Nat) : ∀ (ls : List Leaf) (j : Nat), (idxL dst j ls).map (·.1) = ls.flatMap Leaf.refs
  | [], _ => rfl
  | l :: t, j => by cases l <;> simp [idxL, idxL_fst dst t, Function.comp_def, Leaf.refs]
theorem idxArgs_fst {deep : Bool} (ms : List Md) : ∀ (xs : List Operand) (i : Nat) (as : List TV), argsOf deep σ ms i xs = some as → (idxArgs σ ms i xs).map (·.1) = ownRefs σ ms i xs
  | [], _, _, _ => rfl
  | x :: xs, i, as, h => by
    simp only [argsOf] at h
    obtain ⟨z, hz, h⟩ := Option.bind_eq_some_iff.mp h
    obtain ⟨zs, hzs, h⟩ := Option.bind_eq_some_iff.mp h
    simp only [idxArgs, ownRefs, List.map_append, idxArgs_fst ms xs _ _ hzs]
    congr 1
    cases hm : modeAt ms i with
    | ro => cases he : σ.ev x <;> simp only [List.map_nil]
    | give => cases he : σ.ev x <;> simp only [List.map_nil]
              rw [idxL_fst]; rfl
    | io => cases he : σ.ev x <;> simp only [List.map_nil]
            rw [idxL_fst]; rfl
    | bx f =>
      rw [hm] at hz
      obtain ⟨r, ls, e1, e2, _⟩ := bxOf hz
      rw [ev1_ev' e1]
      simp only [e2, List.map_cons, idxL_fst, AV.refs, AV.leaves, TV.leaves, Leaf.refs, List.flatMap_cons, List.flatMap_nil, List.append_nil, St.below, ARow.refs]
theorem look_mem {α : Type} {idx : List (Nat × α)} (hd : distinct (idx.map (·.1)) = true) {r : Nat} {k : α} (h : (r, k) ∈ idx) : look r idx = some k := by
  induction idx with
  | nil => simp at h
  | cons p t ih =>
    obtain ⟨r', k'⟩ := p
    simp only [List.map_cons, distinct] at hd
    cases hm : memN r' (t.map (·.1)) <;> simp only [hm, cond_true, cond_false] at hd
    · rcases List.mem_cons.mp h with e | h
      · obtain ⟨rfl, rfl⟩ := Prod.mk.inj e
        simp [look]
      · have hne : r' ≠ r := by
          rintro rfl
          have : r' ∈ t.map (·.1) := List.mem_map.mpr ⟨_, h, rfl⟩
          rw [memN_iff.mpr this] at hm; cases hm
        simp only [look, beq_ne (show r ≠ r' from fun h => hne h.symm), cond_false]
        exact ih hd h
    · cases hd
theorem mapM_allJ {f : Leaf → Option Leaf} {R : Leaf → Value → Prop} {R' : Nat → Leaf → Value → Prop} : ∀ {ls ms : List Leaf} {vs : List Value} {j : Nat}, ls.mapM f = some ms → All2 R ls vs →
    (∀ n l m v, ls[n]? = some l → f l = some m → R l v → R' (j + n) m v) → AllJ R' j ms vs
  | [], ms, vs, j, h, hl, hR => by
    simp at h; subst h; cases hl; exact .nil
  | l :: ls, ms, vs, j, h, hl, hR => by
    rw [List.mapM_cons] at h
    obtain ⟨m, hm, h⟩ := Option.bind_eq_some_iff.mp h
    obtain ⟨ms', hms, h⟩ := Option.bind_eq_some_iff.mp h
    obtain rfl := Option.some.inj h
    cases hl with
    | cons h1 h2 =>
      refine .cons (hR 0 l m _ rfl hm h1) (mapM_allJ hms h2 fun n l' m' v h3 h4 h5 => ?_)
      have := hR (n + 1) l' m' v (by simpa using h3) h4 h5
      rwa [show j + 1 + n = j + (n + 1) by omega]
theorem mapM_length {f : Leaf → Option Leaf} : ∀ {ls ms : List Leaf}, ls.mapM f = some ms → ms.length = ls.length
  | [], ms, h => by simp at h; subst h; rfl
  | l :: ls, ms, h => by
    rw [List.mapM_cons] at h
    obtain ⟨m, hm, h⟩ := Option.bind_eq_some_iff.mp h
    obtain ⟨ms', hms, h⟩ := Option.bind_eq_some_iff.mp h
    obtain rfl := Option.some.inj h
    simp [mapM_length hms]
theorem tv_rel (hs : Sim X σ a w G) {x : Operand} {y z : TV} (hx : σ.evT x = some y) {f : Leaf → Option Leaf} (h : y.mapM f = some z) {R' : Nat → Leaf → Value → Prop}
    (hR : ∀ n l m v, y.leaves[n]? = some l → f l = some m → LRel X σ w.heap G l v → R' n m v) : ∃ us, AllJ R' 0 z.leaves us ∧ TVShape z us (a.eval x) := by
  obtain ⟨k1, _, _⟩ := hs.evT hx
  have hu : y ≠ .one .undef := by
    rintro rfl
    unfold St.evT at hx
    split at hx
    · cases hx
    · obtain rfl := Option.some.inj hx
      rename_i h1 h2
      exact h1 rfl
    · cases hx
  cases y with
  | one l =>
    obtain ⟨m, hm, rfl⟩ := Option.map_eq_some_iff.mp h
    have hl := k1.resolve_left (fun e => hu (by rw [e]))
    exact ⟨[a.eval x], .cons (hR 0 l m _ rfl hm hl) .nil, rfl⟩
  | agg ls =>
    obtain ⟨ms, hm, rfl⟩ := Option.map_eq_some_iff.mp h
    obtain ⟨vs, e, hv⟩ := k1
    refine ⟨vs, mapM_allJ hm hv fun n l m v h1 h2 h3 => by rw [Nat.zero_add]; exact hR n l m v h1 h2 h3, e, ?_⟩
    rw [← hv.length, mapM_length hm]
theorem evT_ev {x : Operand} {y : TV} (hx : σ.evT x = some y) : σ.ev x = some (.v y) := by
  unfold St.evT at hx
  split at hx
  · cases hx
  · rename_i h; obtain rfl := Option.some.inj hx; exact h
  · cases hx
theorem idxL_mem (dst : Option Nat) : ∀ (ls : List Leaf) (j n : Nat) (l : Leaf) (r : Nat), ls[n]? = some l → r ∈ l.refs → (∀ r i c, l ≠ .pa r i c) → (r, (none, key dst (j + n))) ∈ idxL dst j ls
  | [], j, n, l, r, h, _, _ => by simp at h
  | l' :: t, j, 0, l, r, h, hr, hno => by
    simp at h; subst h
    simp only [idxL, List.mem_append]
    left
    cases l' <;> first | exact absurd rfl (hno _ _ _) | exact List.mem_map.mpr ⟨r, hr, rfl⟩
  | l' :: t, j, n + 1, l, r, h, hr, hno => by
    simp only [idxL, List.mem_append]
    right
    have := idxL_mem dst t (j + 1) n l r (by simpa using h) hr hno
    rwa [show j + 1 + n = j + (n + 1) by omega] at this
theorem idxL_pa (dst : Option Nat) : ∀ (ls : List Leaf) (j n r i c : Nat), ls[n]? = some (.pa r i c) → (r, (some (i, c), key dst (j + n))) ∈ idxL dst j ls
  | [], j, n, r, i, c, h => by simp at h
  | l' :: t, j, 0, r, i, c, h => by
    simp at h; subst h
    simp only [idxL, List.mem_append]
    exact .inl (List.mem_cons_self ..)
  | l' :: t, j, n + 1, r, i, c, h => by
    simp only [idxL, List.mem_append]
    right
    have := idxL_pa dst t (j + 1) n r i c (by simpa using h)
    rwa [show j + 1 + n = j + (n + 1) by omega] at this
theorem od_nopa {deep : Bool} {l m : Leaf} (h : odLeaf deep σ l = some m) : ∀ r i c, l ≠ .pa r i c := by rintro r i c rfl; cases h
/-- the slice in a cell of an element, and the rest of its row -/
def PartOk (X : Ctx) (σ : St) (h : Array Obj) (G : Gh) (r i c : Nat) (S' : Nat → Prop) (v : Value) : Prop := ∀ f xs, σ.look r = some (.data f xs) → ∀ p, cellSl f (xs.getD i f.zero) c = some p →
  X.deep = true ∧ i < xs.length ∧ c < f.size ∧ (∀ q, S' q → G.rt q = some r) ∧ ∃ (b cap : Nat) (arr : Array Value) (e : TypeId) (fr : Nat × Nat) (ow : Nat → Nat), G.hv r = .slice (some ⟨b, 0, none⟩) xs.length cap ∧ xs.length ≤ cap ∧ G.rt b = some r ∧
    h[b]? = some (.cells arr e fr) ∧ arr.size = cap * f.size ∧ NK f fr arr.size ∧ ¬ S' b ∧ arr[i * f.size + c]? = some v ∧ CRel true h (.sl p.1) p.2 [v] S' ∧
    (∀ i' x, i' ≠ i → xs[i']? = some x → CRel true h f x (seg arr (i' * f.size) f.size) (fun q => (G.rt q = some r ∧ q ≠ b ∧ ow q = i') ∧ ¬ S' q)) ∧
    CHole h f (xs.getD i f.zero) c (seg arr (i * f.size) f.size) (fun q => (G.rt q = some r ∧ q ≠ b ∧ ow q = i) ∧ ¬ S' q)
theorem Sim.part (hs : Sim X σ a w G) (hd : X.deep = true) {r i c : Nat} {v : Value} (hl : LRel X σ w.heap G (.pa r i c) v) : ∃ S', PartOk X σ w.heap G r i c S' v := by
  classical
  by_cases hex : ∃ f xs p, σ.look r = some (.data f xs) ∧ cellSl f (xs.getD i f.zero) c = some p
  · obtain ⟨f, xs, p, hr, hc⟩ := hex
    obtain ⟨hi, hcs, b, n, cap, arr, e, fr, e1, e2, e3⟩ := hl.2 f xs (St.dat_of hr)
    rcases hs.row r _ hr with ⟨_, e'⟩ | ⟨b', cap', arr', e', fr', ow, d1, d2, d3, d4, d5, d6, d7⟩
    · rw [e1] at e'; simp at e'
    · rw [e1] at d1; simp at d1; obtain ⟨rfl, rfl, rfl⟩ := d1
      rw [e2] at d4; obtain ⟨rfl, rfl, rfl⟩ : arr = arr' ∧ e = e' ∧ fr = fr' := by simpa using d4
      have hx : xs[i]? = some xs[i] := List.getElem?_eq_getElem hi
      have hg : xs.getD i f.zero = xs[i] := by simp [List.getD, hx]
      have d7' : ∀ (i' : Nat) (x : f.T), xs[i']? = some x → CRel true w.heap f x (seg arr (i' * f.size) f.size) (fun q => G.rt q = some r ∧ q ≠ b ∧ ow q = i') := by
        intro i' x hx'
        have := d7 i' x hx'
        rw [hd] at this
        refine this.mono fun q hq => ?_
        unfold ESet at hq
        rwa [if_pos hd] at hq
      obtain ⟨S', u, k1, k2, k3, k4⟩ := CRel.toHole (d7' i _ hx) (by rw [← hg]; exact hc)
      rw [seg_get hcs, e3] at k1
      obtain rfl := Option.some.inj k1
      refine ⟨S', fun f2 xs2 hr2 p2 hc2 => ?_⟩
      rw [hr] at hr2
      have hh := Option.some.inj hr2
      injection hh with h1 h2
      subst h1
      obtain rfl := eq_of_heq h2
      rw [hc] at hc2
      obtain rfl := Option.some.inj hc2
      refine ⟨hd, hi, hcs, fun q hq => (k2 q hq).1, b, cap, arr, e, fr, ow, e1, d2, d3, e2, d5, d6, fun hb => (k2 b hb).2.1 rfl, e3, k3, fun i' x hne hx' => (d7' i' x hx').mono fun q hq => ⟨hq, fun hc => hne ?_⟩, by rw [hg]; exact k4⟩
      rw [← hq.2.2, (k2 q hc).2.2]
  · exact ⟨fun _ => False, fun f xs hr p hc => absurd ⟨f, xs, p, hr, hc⟩ hex⟩
theorem io_rel (hs : Sim X σ a w G) {S : Nat → Prop} {ow : Nat → Option Nat} {j : Nat} {l m : Leaf} {v : Value} (h : ioLeaf X.deep σ l = some m) (hl : LRel X σ w.heap G l v)
    (hT : (∀ r i c, l ≠ .pa r i c) → ∀ r ∈ l.refs, ∀ q, G.rt q = some r → ow q = some j) (hP : ∀ r i c, l = .pa r i c → ∀ f xs p, σ.look r = some (.data f xs) → cellSl f (xs.getD i f.zero) c = some p → X.deep = true → CRel true w.heap (.sl p.1) p.2 [v] (fun q => ow q = some j)) (hI : ∀ q, Imm X σ w.heap G q → S q) : LA S ow w.heap j m v := by
  by_cases hpa : ∃ r i c, l = .pa r i c
  · obtain ⟨r, i, c, rfl⟩ := hpa
    simp only [ioLeaf] at h
    cases hd : X.deep <;> simp only [hd, cond_true, cond_false] at h
    · cases h
    split at h
    · rename_i f xs hr
      obtain ⟨p, hp, rfl⟩ := Option.map_eq_some_iff.mp h
      exact hP r i c rfl f xs p hr hp hd
    · cases h
  · have hno : ∀ r i c, l ≠ .pa r i c := fun r i c e => hpa ⟨r, i, c, e⟩
    refine od_rel hs (m := m) (by cases l <;> first | exact absurd rfl (hno _ _ _) | exact h) hl (hT hno) hI
theorem tv_ro {us : List Value} {v : Value} {ow : Nat → Option Nat} {h : Array Obj} {p : Nat} {md : Md} {x : TV} (hm : ∀ f, md ≠ .bx f) (ht : TVShape x us v) : ArgR ow h p md x us v := by
  cases md with
  | bx f => exact absurd rfl (hm f)
  | _ => exact ht
theorem args_rel (hs : Sim X σ a w G) {S : Nat → Prop} {ow : Nat → Option Nat} {ms : List Md} (hI : ∀ q, Imm X σ w.heap G q → S q) : ∀ {xs : List Operand} {i : Nat} {as : List TV}, argsOf X.deep σ ms i xs = some as →
    (∀ r k, (r, (none, k)) ∈ idxArgs σ ms i xs → ∀ q, G.rt q = some r → ow q = some k) →
    (∀ r i' c k, (r, (some (i', c), k)) ∈ idxArgs σ ms i xs → ∀ v, LRel X σ w.heap G (.pa r i' c) v → ∀ f xs p, σ.look r = some (.data f xs) → cellSl f (xs.getD i' f.zero) c = some p → X.deep = true → CRel true w.heap (.sl p.1) p.2 [v] (fun q => ow q = some k)) →
    (∀ r ∈ roRefs σ ms i xs, σ.live r → ∀ q, G.rt q = some r → S q) → ArgsR S ow w.heap ms i as (xs.map a.eval)
  | [], i, as, h, _, _, _ => by simp only [argsOf, Option.some.injEq] at h; subst h; rfl
  | x :: xs, i, as, h, hi, hpp, hr => by
    simp only [argsOf] at h
    obtain ⟨z, hz, h⟩ := Option.bind_eq_some_iff.mp h
    obtain ⟨zs, hzs, h⟩ := Option.bind_eq_some_iff.mp h
    obtain rfl := Option.some.inj h
    simp only [idxArgs, roRefs, List.mem_append] at hi hpp hr
    have htl := args_rel hs hI hzs (fun r k h => hi r k (.inr h)) (fun r i' c k h => hpp r i' c k (.inr h)) (fun r h => hr r (.inr h))
    have hd : ∃ us, AllJ (fun j => LA S ow w.heap (key (some i) j)) 0 z.leaves us ∧ ArgR ow w.heap i (modeAt ms i) z us (a.eval x) := by
      cases hm : modeAt ms i with
      | ro =>
        rw [hm] at hz hr
        simp only [argOf] at hz
        obtain ⟨y, hy, hz⟩ := Option.bind_eq_some_iff.mp hz
        rw [evT_ev hy] at hr
        obtain ⟨us, k1, k2⟩ := tv_rel (R' := fun j => LA S ow w.heap (key (some i) j)) hs hy hz fun n l m v h1 h2 h3 => ro_rel hs h2 h3 (fun r hrr => hr r (.inl (by
          simp only [List.mem_flatMap, AV.refs, AV.leaves] at hrr ⊢
          obtain ⟨r', h4, h5⟩ := hrr
          exact ⟨r', ⟨l, List.mem_of_getElem? h1, h4⟩, h5⟩))) hI
        exact ⟨us, k1, tv_ro (by simp) k2⟩
      | give =>
        rw [hm] at hz hi
        simp only [argOf] at hz
        obtain ⟨y, hy, hz⟩ := Option.bind_eq_some_iff.mp hz
        rw [evT_ev hy] at hi
        obtain ⟨us, k1, k2⟩ := tv_rel (R' := fun j => LA S ow w.heap (key (some i) j)) hs hy hz fun n l m v h1 h2 h3 => od_rel hs h2 h3 (fun r hrr => hi r _ (.inl (by
          have := idxL_mem (some i) y.leaves 0 n l r h1 hrr (od_nopa h2)
          rwa [Nat.zero_add] at this))) hI
        exact ⟨us, k1, tv_ro (by simp) k2⟩
      | io =>
        rw [hm] at hz hi hpp
        simp only [argOf] at hz
        obtain ⟨y, hy, hz⟩ := Option.bind_eq_some_iff.mp hz
        rw [evT_ev hy] at hi hpp
        obtain ⟨us, k1, k2⟩ := tv_rel (R' := fun j => LA S ow w.heap (key (some i) j)) hs hy hz fun n l m v h1 h2 h3 => io_rel hs h2 h3 (fun hno r hrr => hi r _ (.inl (by
          have := idxL_mem (some i) y.leaves 0 n l r h1 hrr hno
          rwa [Nat.zero_add] at this))) (fun r i' c e => by
            subst e
            refine hpp r i' c _ (.inl ?_) v h3
            have := idxL_pa (some i) y.leaves 0 n r i' c h1
            rwa [Nat.zero_add] at this) hI
        exact ⟨us, k1, tv_ro (by simp) k2⟩
      | bx f =>
        rw [hm] at hz hi
        obtain ⟨r, ls, e1, e2, ms', e3, rfl⟩ := bxOf hz
        rw [ev1_ev' e1] at hi
        simp only [e2, List.mem_cons] at hi
        obtain ⟨b, arr, e, fr, d1, d2, d3, d4, d5, d6⟩ := hs.row r _ e2
        have hv := (hs.ev1 e1 (by simp)).1
        obtain ⟨b', h1, h2⟩ := hv.2.2 f ls e2
        rw [d1] at h1; simp at h1; subst h1
        refine ⟨arr.toList, mapM_allJ e3 d6 fun n l m v h1 h2 h3 => ?_, ms', b, arr, e, fr, rfl, h2, d3, d4, rfl, by rw [mapM_length e3]; exact d5, hi r _ (.inl (.inl rfl)) b d2⟩
        rw [Nat.zero_add]
        refine od_rel hs h2 h3 (fun r' hrr => hi r' _ (.inl (.inr ?_))) hI
        have := idxL_mem (some i) ls 0 n l r' h1 hrr (od_nopa h2)
        rwa [Nat.zero_add] at this
    obtain ⟨us, h1, h2⟩ := hd
    exact ⟨us, _, _, rfl, h1, h2, htl⟩
/-- the in-out arguments' values are their rows' own -/
def IoRow (X : Ctx) (σ : St) (h : Array Obj) (G : Gh) (PS : Nat → Nat → Prop) (r : Nat × Option (Nat × Nat)) (v : Value) : Prop := match r.2 with
  | none => v = G.hv r.1 ∧ ((∃ f xs, σ.look r.1 = some (.data f xs) ∧ ∃ p n m, v = .slice p n m) ∨ ∃ f ls b, σ.look r.1 = some (.box f ls) ∧ v = .pointer (some ⟨b, 0, none⟩))
  | some ic => (∃ f xs p, σ.look r.1 = some (.data f xs) ∧ cellSl f (xs.getD ic.1 f.zero) ic.2 = some p) ∧ (∃ p n m, v = .slice p n m) ∧ PartOk X σ h G r.1 ic.1 ic.2 (PS r.1) v
theorem All2.app {α β : Type} {R : α → β → Prop} : ∀ {l l' : List α} {m m' : List β}, All2 R l m → All2 R l' m' → All2 R (l ++ l') (m ++ m')
  | _, _, _, _, .nil, h => h
  | _, _, _, _, .cons h1 h2, h => .cons h1 (All2.app h2 h)
theorem odVals_rel (hs : Sim X σ a w G) {PS : Nat → Nat → Prop} : ∀ {ls ms : List Leaf} {vs : List Value}, ls.mapM (ioLeaf X.deep σ) = some ms → All2 (LRel X σ w.heap G) ls vs →
    (∀ r i c v, .pa r i c ∈ ls → LRel X σ w.heap G (.pa r i c) v → PartOk X σ w.heap G r i c (PS r) v) → All2 (IoRow X σ w.heap G PS) (ls.flatMap ioPart) (odVals ms vs)
  | [], ms, vs, h, hl, _ => by simp at h; subst h; cases hl; exact .nil
  | l :: ls, ms, vs, h, hl, hP => by
    rw [List.mapM_cons] at h
    obtain ⟨m, hm, h⟩ := Option.bind_eq_some_iff.mp h
    obtain ⟨ms', hms, h⟩ := Option.bind_eq_some_iff.mp h
    obtain rfl := Option.some.inj h
    cases hl with
    | @cons _ v _ _ h1 h2 =>
      have ih := odVals_rel hs hms h2 fun r i c v hr => hP r i c v (List.mem_cons_of_mem _ hr)
      cases l <;> simp only [ioLeaf, odLeaf] at hm <;> try (cases hm; done)
      case int => obtain rfl := Option.some.inj hm; simpa [odVals, ioPart, Leaf.refs] using ih
      case bool => obtain rfl := Option.some.inj hm; simpa [odVals, ioPart, Leaf.refs] using ih
      case str => obtain rfl := Option.some.inj hm; simpa [odVals, ioPart, Leaf.refs] using ih
      case sh => obtain rfl := Option.some.inj hm; simpa [odVals, ioPart, Leaf.refs] using ih
      case ow r =>
        split at hm
        · rename_i f xs hr
          cases hd : X.deep || f.flat <;> simp only [hd, cond_true, cond_false] at hm
          · cases hm
          obtain rfl := Option.some.inj hm
          simp only [List.flatMap_cons, ioPart, Leaf.refs, List.map_cons, List.map_nil, odVals, List.singleton_append]
          refine .cons ⟨h1.2 f xs (St.dat_of hr), .inl ⟨f, xs, hr, ?_⟩⟩ ih
          rw [h1.2 f xs (St.dat_of hr)]
          rcases hs.row r _ hr with ⟨_, e⟩ | ⟨b, cap, arr, e, fr, ow, d1, _⟩
          · exact ⟨_, _, _, e⟩
          · exact ⟨_, _, _, d1⟩
        · cases hm
      case pa r i c =>
        cases hd : X.deep <;> simp only [hd, cond_true, cond_false] at hm
        · cases hm
        split at hm
        · rename_i f xs hr
          obtain ⟨p, hp, rfl⟩ := Option.map_eq_some_iff.mp hm
          simp only [List.flatMap_cons, ioPart, odVals, List.singleton_append]
          have hpo := hP r i c v (List.mem_cons_self ..) h1
          refine .cons ⟨⟨f, xs, p, hr, hp⟩, ?_, hpo⟩ ih
          obtain ⟨_, _, _, _, b, cap, arr, e, fr, ow, _, _, _, _, _, _, _, _, k, _⟩ := hpo f xs hr p hp
          simp only [CRel] at k
          rcases k with ⟨_, a', c', e', _⟩ | ⟨b', off, cap', arr', e', fr', ow', e1, _⟩
          · simp at e'; exact ⟨_, _, _, e'⟩
          · simp at e1; exact ⟨_, _, _, e1⟩
        · cases hm
theorem ioVals_rel (hs : Sim X σ a w G) {PS : Nat → Nat → Prop} {ms : List Md} : ∀ {xs : List Operand} {i : Nat} {as : List TV}, argsOf X.deep σ ms i xs = some as →
    (∀ r i' c k, (r, (some (i', c), k)) ∈ idxArgs σ ms i xs → ∀ v, LRel X σ w.heap G (.pa r i' c) v → PartOk X σ w.heap G r i' c (PS r) v) → All2 (IoRow X σ w.heap G PS) (ioRows σ ms i xs) (ioVals ms i as (xs.map a.eval))
  | [], i, as, h, _ => by simp only [argsOf, Option.some.injEq] at h; subst h; exact .nil
  | x :: xs, i, as, h, hP => by
    simp only [argsOf] at h
    obtain ⟨z, hz, h⟩ := Option.bind_eq_some_iff.mp h
    obtain ⟨zs, hzs, h⟩ := Option.bind_eq_some_iff.mp h
    obtain rfl := Option.some.inj h
    simp only [idxArgs, List.mem_append] at hP
    simp only [ioRows, List.map_cons, ioVals]
    refine All2.app ?_ (ioVals_rel hs hzs fun r i' c k h => hP r i' c k (.inr h))
    cases hm : modeAt ms i with
    | ro => cases σ.ev x <;> exact .nil
    | give => cases σ.ev x <;> exact .nil
    | io =>
      rw [hm] at hz hP
      simp only [argOf] at hz
      obtain ⟨y, hy, hz⟩ := Option.bind_eq_some_iff.mp hz
      rw [evT_ev hy] at hP ⊢
      have hP' : ∀ r i' c v, .pa r i' c ∈ y.leaves → LRel X σ w.heap G (.pa r i' c) v → PartOk X σ w.heap G r i' c (PS r) v := by
        intro r i' c v hm hl
        obtain ⟨n, hn⟩ := List.getElem?_of_mem hm
        exact hP r i' c _ (.inl (idxL_pa (some i) y.leaves 0 n r i' c hn)) v hl
      obtain ⟨k1, _, _⟩ := hs.evT hy
      cases y with
      | one l =>
        obtain ⟨m, hm', rfl⟩ := Option.map_eq_some_iff.mp hz
        have hne : l ≠ .undef := by rintro rfl; cases hm'
        have hl := k1.resolve_left hne
        have := odVals_rel (PS := PS) hs (ls := [l]) (ms := [m]) (vs := [a.eval x]) (by simp [hm']) (.cons hl .nil) hP'
        simpa [AV.leaves, TV.leaves, cellsT] using this
      | agg ls =>
        obtain ⟨ms', hm', rfl⟩ := Option.map_eq_some_iff.mp hz
        obtain ⟨vs, e, hv⟩ := k1
        have := odVals_rel (PS := PS) hs hm' hv hP'
        rw [e]
        simpa [AV.leaves, TV.leaves, cellsT] using this
    | bx f =>
      rw [hm] at hz
      obtain ⟨r, ls, e1, e2, ms', e3, rfl⟩ := bxOf hz
      rw [ev1_ev' e1]
      obtain ⟨b, arr, e, fr, d1, d2, d3, d4, d5, d6⟩ := hs.row r _ e2
      have hv := (hs.ev1 e1 (by simp)).1
      obtain ⟨b', h1, h2⟩ := hv.2.2 f ls e2
      simp only [AV.refs, AV.leaves, TV.leaves, List.flatMap_cons, List.flatMap_nil, Leaf.refs, List.append_nil, List.map_cons, List.map_nil]
      exact .cons ⟨by rw [h1]; exact h2, .inr ⟨f, ls, b', e2, h2⟩⟩ .nil
end
end Go.Proofs.Ytalmhjlcjcnidaa.Ev

/- Functions: the first frame, the results, the whole. -/
import Derived.Test.YthfkolhjnioblaaEvCode
set_option linter.all false
namespace Go.Proofs.Ythfkolhjnioblaa.Ev
open Go
section
variable {P : Program} {E : Env} {X : Ctx} {σ σ' : St} {a : Act} {w w' : World} {G : Gh}
def cellOf : TV → Value → Nat → Value
  | .one _, v, _ => v
  | .agg _, .agg vs, n => vs.getD n undef
  | .agg _, _, _ => undef
theorem shape_cell {x : TV} {us : List Value} {v : Value} (h : TVShape x us v) {n : Nat} {u : Value} (hu : us[n]? = some u) : cellOf x v n = u := by
  cases x with
  | one l =>
    simp only [TVShape] at h; subst h
    cases n with
    | zero => simpa [cellOf] using hu
    | succ n => simp at hu
  | agg ls =>
    obtain ⟨rfl, _⟩ := h
    obtain ⟨h1, h2⟩ := List.getElem?_eq_some_iff.mp hu
    simp [cellOf, Array.getD, h1, h2]
theorem ArgsR.get {S : Nat → Prop} {ow : Nat → Option Nat} {h : Array Obj} : ∀ {as : List TV} {vs : List Value} {i p : Nat} {x : TV}, ArgsR S ow h i as vs → as[p]? = some x →
    ∃ v us, vs[p]? = some v ∧ AllJ (fun j => LA S ow h (key (some (i + p)) j)) 0 x.leaves us ∧ TVShape x us v
  | [], vs, i, p, x, _, hp => by simp at hp
  | y :: as, vs, i, 0, x, h1, hp => by
    obtain ⟨us, v, vs', rfl, h3, h4, h5⟩ := h1
    simp at hp; subst hp
    exact ⟨v, us, rfl, h3, h4⟩
  | y :: as, vs, i, p + 1, x, h1, hp => by
    obtain ⟨us, v, vs', rfl, h3, h4, h5⟩ := h1
    obtain ⟨v', us', k1, k2, k3⟩ := ArgsR.get h5 (by simpa using hp)
    exact ⟨v', us', by simpa using k1, by rwa [show i + 1 + p = i + (p + 1) by omega] at k2, k3⟩
theorem entArgs_slots : ∀ (as : List TV) (p : Nat), (entArgs p as).1.length = as.length ∧ ∀ (n : Nat) (x : TV), as[n]? = some x → (entArgs p as).1[n]? = some (AV.v (instTV (some (p + n)) 0 x).1)
  | [], p => by simp [entArgs]
  | y :: as, p => by
    obtain ⟨h1, h2⟩ := entArgs_slots as (p + 1)
    refine ⟨by simp [entArgs, h1], fun n x hx => ?_⟩
    cases n with
    | zero => simp at hx; subst hx; rfl
    | succ n =>
      have := h2 n x (by simpa using hx)
      simp only [entArgs, List.getElem?_cons_succ, this]
      rw [show p + 1 + n = p + (n + 1) by omega]
theorem entArgs_rows : ∀ (as : List TV) (p : Nat) (q : Nat × ARow), q ∈ (entArgs p as).2 ↔ ∃ n x j f xs, as[n]? = some x ∧ x.leaves[j]? = some (.od f xs) ∧ q = (key (some (p + n)) j, .data f xs)
  | [], p, q => by simp [entArgs]
  | y :: as, p, q => by
    have ih := entArgs_rows as (p + 1) q
    simp only [entArgs, List.mem_append, ih, (instTV_leaves (some p) 0 y).2, instLeaves_rows]
    constructor
    · rintro (⟨n, f, xs, h1, h2⟩ | ⟨n, x, j, f, xs, h1, h2, h3⟩)
      · exact ⟨0, y, n, f, xs, rfl, h1, by rw [h2]; simp⟩
      · exact ⟨n + 1, x, j, f, xs, by simpa using h1, h2, by rw [h3, show p + 1 + n = p + (n + 1) by omega]⟩
    · rintro ⟨n, x, j, f, xs, h1, h2, h3⟩
      cases n with
      | zero => simp at h1; subst h1; exact .inl ⟨j, f, xs, h2, by rw [h3]; simp⟩
      | succ n => exact .inr ⟨n, x, j, f, xs, by simpa using h1, h2, by rw [h3, show p + 1 + n = p + (n + 1) by omega]⟩
theorem LA.toL {S : Nat → Prop} {ow : Nat → Option Nat} {h : Array Obj} {j : Nat} {l : Leaf} {v : Value} (hno : ∀ f xs, l ≠ .od f xs) (hS : ∀ q, S q → Imm X σ h G q) (hl : LA S ow h j l v) : LRel X σ h G l v := by
  cases l with
  | int => exact hl
  | bool => exact hl
  | str => exact hl
  | sh f xs => exact CRel.mono hS hl
  | od f xs => exact absurd rfl (hno f xs)
  | spt f x c => exact SptS.mono hS hl
  | clo g caps =>
    obtain ⟨vs, e, hv⟩ := hl
    refine ⟨vs, e, hv.mono fun c v hc => ?_⟩
    cases c with
    | own r => exact hc.elim
    | sh f x => exact SptS.mono hS hc
  | _ => exact hl.elim
/-- THE FIRST FRAME. -/
theorem entry_ok {deep : Bool} {w : World} {S : Nat → Prop} {ow0 : Nat → Option Nat} {as : List TV} {vs : List Value} {ntmps : Nat} (hS : ∀ q, S q → q < w.heap.size ∧ ow0 q = none) (hlt : ∀ q j, ow0 q = some j → q < w.heap.size)
    (hargs : ArgsR S ow0 w.heap 0 as vs) (h : entry ntmps as = some σ) :
    ∃ G, Sim ⟨deep, w, S, fun q => ow0 q ≠ none, []⟩ σ { tmps := vs.toArray ++ Array.replicate (ntmps - vs.toArray.size) undef, defers := [] } w G := by
  classical
  unfold entry at h
  cases hall : as.all (fun x => Nat.ble x.leaves.length 64) <;> simp only [hall, Bool.not_true, Bool.not_false, cond_true, cond_false] at h
  · cases h
  obtain ⟨k1, k2, k3, k4, k5⟩ := addRows_look h
  have hlen := hargs.len
  have h64 : ∀ x ∈ as, x.leaves.length ≤ 64 := fun x hx => Nat.ble_true (List.all_eq_true.mp hall x hx)
  let hv : Nat → Value := fun k => cellOf (as.getD (k / 64) (.one .undef)) (vs.getD (k / 64) undef) (k % 64)
  let G : Gh := {
    rt := fun q => match ow0 q with
      | some k => if deep = true ∨ ∃ c m, hv k = .slice (some ⟨q, 0, none⟩) c m then some k else none
      | none => none
    hv := hv }
  have hhv : ∀ p x j us v u, as[p]? = some x → vs[p]? = some v → TVShape x us v → us[j]? = some u → j < x.leaves.length → hv (key (some p) j) = u := by
    intro p x j us v u h1 h2 h3 h4 h5
    have := h64 x (List.mem_of_getElem? h1)
    have e1 : key (some p) j / 64 = p := by simp only [key]; omega
    have e2 : key (some p) j % 64 = j := by simp only [key]; omega
    show cellOf (as.getD (key (some p) j / 64) (.one .undef)) (vs.getD (key (some p) j / 64) undef) (key (some p) j % 64) = u
    rw [e1, e2]
    simp only [List.getD, h1, h2, Option.getD_some]
    exact shape_cell h3 h4
  have hrt : ∀ q k, G.rt q = some k → ow0 q = some k := by
    intro q k hq
    change (match ow0 q with | some k => _ | none => none) = some k at hq
    cases h0 : ow0 q with
    | none => rw [h0] at hq; cases hq
    | some k' =>
      rw [h0] at hq
      dsimp only at hq
      split at hq
      · exact hq
      · cases hq
  have hrow : ∀ q, q ∈ (entArgs 0 as).2 ↔ ∃ n x j f xs, as[n]? = some x ∧ x.leaves[j]? = some (.od f xs) ∧ q = (key (some n) j, .data f xs) := by
    intro q; rw [entArgs_rows]; simp
  have hlook : ∀ r row, σ.look r = some row → (r, row) ∈ (entArgs 0 as).2 := by
    intro r row hr
    by_cases hex : ∃ p ∈ (entArgs 0 as).2, p.1 = r
    · obtain ⟨p, hp, rfl⟩ := hex
      rw [(k3 p hp).2] at hr
      obtain rfl := Option.some.inj hr
      exact hp
    · rw [k4 r fun p hp e => hex ⟨p, hp, e⟩] at hr
      cases hr
  have himm : ∀ q, S q → Imm ⟨deep, w, S, fun q => ow0 q ≠ none, []⟩ σ w.heap G q := by
    intro q hq
    obtain ⟨h1, h2⟩ := hS q hq
    refine ⟨h1, .inl hq, fun r hr => ?_⟩
    rw [hrt q r hr] at h2; cases h2
  have hslots : σ.slots = (entArgs 0 as).1 ++ List.replicate (ntmps - as.length) undefAV := k1
  obtain ⟨s1, s2⟩ := entArgs_slots as 0
  have hget : ∀ i, (∃ x v us, as[i]? = some x ∧ vs[i]? = some v ∧ AllJ (fun j => LA S ow0 w.heap (key (some i) j)) 0 x.leaves us ∧ TVShape x us v ∧ σ.slots.getD i undefAV = .v (instTV (some i) 0 x).1 ∧ (vs.toArray ++ Array.replicate (ntmps - vs.toArray.size) undef).getD i undef = v) ∨
      (σ.slots.getD i undefAV = undefAV ∧ (vs.toArray ++ Array.replicate (ntmps - vs.toArray.size) undef).getD i undef = undef) := by
    intro i
    by_cases hi : i < as.length
    · left
      obtain ⟨v, us, h1, h2, h3⟩ := hargs.get (List.getElem?_eq_getElem hi)
      rw [Nat.zero_add] at h2
      refine ⟨as[i], v, us, List.getElem?_eq_getElem hi, h1, h2, h3, ?_, ?_⟩
      · have := s2 i _ (List.getElem?_eq_getElem hi)
        rw [Nat.zero_add] at this
        rw [hslots, List.getD, List.getElem?_append_left (by omega), this]; rfl
      · have hv : i < vs.length := by omega
        have e : (vs.toArray ++ Array.replicate (ntmps - vs.toArray.size) undef)[i]? = some v := by
          rw [Array.getElem?_append_left (by simpa using hv)]; simpa using h1
        obtain ⟨h3, h4⟩ := Array.getElem?_eq_some_iff.mp e
        simp only [Array.getD]
        rw [dif_pos h3]; exact h4
    · right
      refine ⟨?_, ?_⟩
      · rw [hslots, List.getD, List.getElem?_append_right (by omega), List.getElem?_replicate]
        split <;> rfl
      · simp only [Array.getD]
        split
        · rename_i h
          simp only [Array.getInternal_eq_getElem]
          rw [Array.getElem_append_right (by simp; omega)]
          simp
        · rfl
  have hrefs : ∀ n x, as[n]? = some x → ∀ us, AllJ (fun j => LA S ow0 w.heap (key (some n) j)) 0 x.leaves us → ∀ l ∈ (instTV (some n) 0 x).1.leaves, ∀ r ∈ l.refs, ∃ row, σ.look r = some row := by
    intro n x hx us hus l hl r hr
    rw [(instTV_leaves (some n) 0 x).1] at hl
    have : ∀ (ls : List Leaf) (us : List Value) (j : Nat), l ∈ (instLeaves (some n) j ls).1 → AllJ (fun j => LA S ow0 w.heap (key (some n) j)) j ls us → ∃ m f xs, ls[m]? = some (.od f xs) ∧ r = key (some n) (j + m) := by
      intro ls
      induction ls with
      | nil => intro us j h _; simp [instLeaves] at h
      | cons l' ls ih =>
        intro us j h ha
        cases ha with
        | cons h1 h2 =>
          have key' : l ∈ (instLeaves (some n) (j + 1) ls).1 → ∃ m f xs, (l' :: ls)[m]? = some (.od f xs) ∧ r = key (some n) (j + m) := by
            intro hm
            obtain ⟨m, f, xs, e1, e2⟩ := ih _ (j + 1) hm h2
            exact ⟨m + 1, f, xs, by simpa using e1, by rw [e2, show j + 1 + m = j + (m + 1) by omega]⟩
          by_cases hod : ∃ f xs, l' = .od f xs
          · obtain ⟨f, xs, rfl⟩ := hod
            simp only [instLeaves, List.mem_cons] at h
            rcases h with rfl | h
            · simp [Leaf.refs] at hr; subst hr; exact ⟨0, f, xs, rfl, rfl⟩
            · exact key' h
          · have e : (instLeaves (some n) j (l' :: ls)).1 = l' :: (instLeaves (some n) (j + 1) ls).1 := by
              cases l' <;> simp only [instLeaves]
              exact absurd ⟨_, _, rfl⟩ hod
            rw [e] at h
            rcases List.mem_cons.mp h with rfl | h
            · cases l <;> simp only [LA] at h1 <;> try (simp [Leaf.refs] at hr; done)
              rename_i g caps
              obtain ⟨vs', _, hv⟩ := h1
              simp only [Leaf.refs, List.mem_filterMap] at hr
              obtain ⟨c, hc, hr⟩ := hr
              obtain ⟨i, hi⟩ := List.getElem?_of_mem hc
              obtain ⟨v, _, hcv⟩ := hv.get hi
              cases c with
              | own r' => exact hcv.elim
              | sh f x => cases hr
            · exact key' h
    obtain ⟨m, f, xs, e1, rfl⟩ := this _ us 0 hl hus
    rw [Nat.zero_add]
    exact ⟨_, (k3 _ ((hrow _).mpr ⟨n, x, m, f, xs, hx, e1, rfl⟩)).2⟩
  refine ⟨G, rfl, ?_, ?_, ?_, ?_, ?_, ?_, Nat.le_refl _, fun _ _ _ => rfl, rfl, rfl, rfl, ?_, ?_, ?_⟩
  · simp [hslots, s1, hlen]
  · intro i _
    rcases hget i with ⟨x, v, us, h1, h2, h3, h4, h5, h6⟩ | ⟨h5, h6⟩
    · simp only [h5, h6]
      refine shape_T h4 ?_
      rw [(instTV_leaves (some i) 0 x).1]
      have hmem : AllJ (fun j l u => (x.leaves[j]? = some l ∧ us[j]? = some u) ∧ LA S ow0 w.heap (key (some i) j) l u) 0 x.leaves us := by
        have : ∀ {j : Nat} {ls : List Leaf} {ws : List Value}, AllJ (fun j => LA S ow0 w.heap (key (some i) j)) j ls ws → (∀ n l, ls[n]? = some l → x.leaves[j + n]? = some l) → (∀ n l, ws[n]? = some l → us[j + n]? = some l) →
            AllJ (fun j l u => (x.leaves[j]? = some l ∧ us[j]? = some u) ∧ LA S ow0 w.heap (key (some i) j) l u) j ls ws := by
          intro j ls ws h
          induction h with
          | nil => intro _ _; exact .nil
          | @cons j l v ls vs h _ ih =>
            intro e1 e2
            refine .cons ⟨⟨by simpa using e1 0 l rfl, by simpa using e2 0 v rfl⟩, h⟩ (ih (fun n l' hl => ?_) (fun n l' hl => ?_))
            · have := e1 (n + 1) l' (by simpa using hl); rwa [show j + 1 + n = j + (n + 1) by omega]
            · have := e2 (n + 1) l' (by simpa using hl); rwa [show j + 1 + n = j + (n + 1) by omega]
        exact this h3 (by simp) (by simp)
      refine inst_all (fun j f xs u hh => ?_) (fun j l u hno hh => hh.2.toL hno himm) hmem
      obtain ⟨⟨e1, e2⟩, hc⟩ := hh
      refine ⟨CRel.one hc, fun f' xs' _ => ?_⟩
      exact (hhv i x j us v u h1 h2 h4 e2 (List.getElem?_eq_some_iff.mp e1).1).symm
    · simp only [h5, h6]; exact .inl rfl
  · intro r row hr
    obtain ⟨n, x, j, f, xs, h1, h2, h3⟩ := (hrow _).mp (hlook r row hr)
    obtain ⟨rfl, rfl⟩ := Prod.mk.inj h3
    obtain ⟨v, us, h4, h5, h6⟩ := hargs.get h1
    rw [Nat.zero_add] at h5
    obtain ⟨u, hu, hrel⟩ := h5.get h2
    rw [Nat.zero_add] at hrel
    have hgu : G.hv (key (some n) j) = u := hhv n x j us v u h1 h4 h6 hu (List.getElem?_eq_some_iff.mp h2).1
    refine rowIn hrel hgu (fun q hq hor => ?_) (fun hd q hq hno => ?_)
    · show (match ow0 q with | some k => _ | none => none) = _
      rw [hq]
      dsimp only
      rw [if_pos]
      rcases hor with h | ⟨c, m, h⟩
      · exact .inl h
      · exact .inr ⟨c, m, by rw [← h]; exact hgu⟩
    · refine ⟨hlt q _ hq, .inr (.inl (show ow0 q ≠ none by rw [hq]; simp)), fun r hr => ?_⟩
      change (match ow0 q with | some k => _ | none => none) = some r at hr
      rw [hq] at hr
      dsimp only at hr
      rw [if_neg] at hr
      · cases hr
      · rintro (h | ⟨c, m, h⟩)
        · change deep = false at hd; rw [hd] at h; cases h
        · exact hno ⟨c, m, by rw [← h]; exact hgu.symm⟩
  · rw [k2]; exact .nil
  · intro q r hr; exact hlt q r (hrt q r hr)
  · intro q r hr _ _; show ow0 q ≠ none; rw [hrt q r hr]; simp
  · intro i _ r hr
    rcases hget i with ⟨x, v, us, h1, h2, h3, h4, h5, h6⟩ | ⟨h5, h6⟩
    · rw [h5] at hr
      obtain ⟨l, hl, hr⟩ := List.mem_flatMap.mp hr
      exact hrefs i x h1 us h3 l hl r hr
    · rw [h5] at hr; simp [AV.refs, AV.leaves, undefAV, TV.leaves, Leaf.refs] at hr
  · intro l hl; rw [k2] at hl; simp at hl
  · intro r f ls hr
    obtain ⟨n, x, j, f', xs, h1, h2, h3⟩ := (hrow _).mp (hlook r _ hr)
    cases (Prod.mk.inj h3).2
end
end Go.Proofs.Ythfkolhjnioblaa.Ev

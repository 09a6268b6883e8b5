/- The evaluator's tables, held against the program by computing. -/
import Derived.Test.YtalmhjlcjcnidaaEvLaw
set_option linter.all false
namespace Go.Proofs.Ytalmhjlcjcnidaa.Ev
open Go
def zeroB : Kd → List Value → Option (List Value)
  | .int k, .int k' n :: t => bif decide (k' = k ∧ n = 0) then some t else none
  | .bool, .bool b :: t => bif b then none else some t
  | .str, .string s :: t => bif Nat.beq s.size 0 then some t else none
  | .sl _, .slice none 0 0 :: t => some t
  | .pair a b, vs => (zeroB a vs).bind (zeroB b)
  | _, _ => none
def zeroAll (f : Kd) (z : Option Value) : Bool := match z with
  | some z => match zeroB f z.cells.toList with
    | some [] => true
    | _ => false
  | none => false
def elB (P : Program) (e : TypeId) (f : Kd) (eb : Nat) : Bool := match P.info? e with
  | some j => Nat.beq j.size f.size && Nat.beq j.bytes eb && zeroAll f j.zero
  | none => false
def tyB (P : Program) (t : TypeId) (i : Ti) : Bool :=
  (match P.info? t with
    | some j => Nat.beq j.size i.size && zeroAll i.kd j.zero
    | none => false) &&
  Nat.beq i.size i.kd.size &&
  (match P.underlying t with
    | some (.int k) => decide (i.kd = .int k) && !i.agg && i.offs.isEmpty
    | some .bool => decide (i.kd = .bool) && !i.agg && i.offs.isEmpty
    | some .string => decide (i.kd = .str) && !i.agg && i.offs.isEmpty
    | some (.slice e) => match i.kd with
      | .sl f => !i.agg && i.offs.isEmpty && elB P e f i.eb
      | _ => false
    | some (.struct fs) => i.agg && decide (i.offs = fs.toList.map fun f => (f.offset, P.cellsOf f.type)) && fs.toList.all fun f => match P.info? f.type with
        | some j => !Nat.beq j.size 0
        | none => false
    | _ => false) &&
  (match i.kd with
    | .sl (.int .u8) => match P.underlying t with
      | some (.slice e) => match P.underlying e with
        | some (.int .u8) => true
        | _ => false
      | _ => true
    | _ => true)
section
variable {P : Program} {E : Env}
theorem zeroB_ok : ∀ {f : Kd} {vs rest : List Value}, zeroB f vs = some rest → vs = zeroVals f ++ rest
  | .int k, vs, rest, h => by
    match vs, h with
    | .int k' n :: t, h =>
      simp only [zeroB] at h
      cases hd : decide (k' = k ∧ n = 0) <;> simp only [hd, cond_true, cond_false] at h
      · cases h
      · rw [decide_eq_true_eq] at hd
        have e := Option.some.inj h
        rw [hd.1, hd.2, e]
        rfl
  | .bool, vs, rest, h => by
    match vs, h with
    | .bool b :: t, h =>
      simp only [zeroB] at h
      cases b <;> simp only [cond_true, cond_false] at h
      · obtain rfl := Option.some.inj h; rfl
      · cases h
  | .str, vs, rest, h => by
    match vs, h with
    | .string s :: t, h =>
      simp only [zeroB] at h
      cases hb : Nat.beq s.size 0 <;> simp only [hb, cond_true, cond_false] at h
      · cases h
      · obtain rfl := Option.some.inj h
        have h0 := Nat.eq_of_beq_eq_true hb
        obtain ⟨d⟩ := s
        have : d = #[] := Array.eq_empty_of_size_eq_zero h0
        subst this; rfl
  | .sl f, vs, rest, h => by
    match vs, h with
    | .slice none 0 0 :: t, h =>
      simp only [zeroB] at h
      obtain rfl := Option.some.inj h; rfl
  | .pair a b, vs, rest, h => by
    have h' : (zeroB a vs).bind (zeroB b) = some rest := by
      match vs, h with
      | [], h => simpa [zeroB] using h
      | _ :: _, h => simpa [zeroB] using h
    obtain ⟨r, h1, h2⟩ := Option.bind_eq_some_iff.mp h'
    rw [zeroB_ok h1, zeroB_ok h2]; simp [zeroVals]
theorem zeroAll_ok {f : Kd} {z : Option Value} (h : zeroAll f z = true) : ∃ v, z = some v ∧ v.cells.toList = zeroVals f := by
  unfold zeroAll at h
  split at h
  · rename_i v
    split at h
    · rename_i hz
      refine ⟨v, rfl, ?_⟩
      rw [zeroB_ok hz, List.append_nil]
    · cases h
  · cases h
theorem elB_ok {e : TypeId} {f : Kd} {eb : Nat} (h : elB P e f eb = true) : ElOk P e f eb := by
  unfold elB at h
  split at h
  · rename_i j hj
    simp only [Bool.and_eq_true] at h
    obtain ⟨v, h1, h2⟩ := zeroAll_ok h.2
    exact ⟨j, v, hj, Nat.eq_of_beq_eq_true h.1.1, Nat.eq_of_beq_eq_true h.1.2, h1, h2⟩
  · cases h
theorem isEmpty_nil {α : Type} {l : List α} (h : l.isEmpty = true) : l = [] := by cases l <;> simp_all
theorem tyB_ok {t : TypeId} {i : Ti} (h : tyB P t i = true) : TyOk P t i ∧ ∀ e, i.kd = .sl (.int .u8) → P.underlying t = some (.slice e) → P.underlying e = some (.int .u8) := by
  unfold tyB at h
  simp only [Bool.and_eq_true] at h
  obtain ⟨⟨⟨h1, h2⟩, h3⟩, h4⟩ := h
  refine ⟨⟨?_, ?_, Nat.eq_of_beq_eq_true h2⟩, fun e hk hu => ?_⟩
  · split at h1
    · rename_i j hj
      simp only [Bool.and_eq_true] at h1
      obtain ⟨v, k1, k2⟩ := zeroAll_ok h1.2
      exact ⟨j, v, hj, Nat.eq_of_beq_eq_true h1.1, k1, k2⟩
    · cases h1
  · split at h3
    · rename_i k hu
      simp only [Bool.and_eq_true, decide_eq_true_eq, Bool.not_eq_true'] at h3
      exact ⟨_, hu, h3.1.1, h3.1.2, isEmpty_nil h3.2⟩
    · rename_i hu
      simp only [Bool.and_eq_true, decide_eq_true_eq, Bool.not_eq_true'] at h3
      exact ⟨_, hu, h3.1.1, h3.1.2, isEmpty_nil h3.2⟩
    · rename_i hu
      simp only [Bool.and_eq_true, decide_eq_true_eq, Bool.not_eq_true'] at h3
      exact ⟨_, hu, h3.1.1, h3.1.2, isEmpty_nil h3.2⟩
    · rename_i e hu
      split at h3
      · rename_i f hk
        simp only [Bool.and_eq_true, Bool.not_eq_true'] at h3
        exact ⟨_, hu, f, hk, ⟨h3.1.1, isEmpty_nil h3.1.2⟩, elB_ok h3.2⟩
      · cases h3
    · rename_i fs hu
      simp only [Bool.and_eq_true, decide_eq_true_eq] at h3
      refine ⟨_, hu, h3.1.1, h3.1.2, fun f hf => ?_⟩
      have := List.all_eq_true.mp h3.2 f hf
      split at this
      · rename_i j hj
        refine ⟨j, hj, fun h0 => ?_⟩
        rw [h0] at this; simp at this
      · cases this
    · cases h3
  · rw [hk] at h4
    simp only [hu] at h4
    split at h4
    · assumption
    · cases h4
theorem look_in' {α : Type} {r : Nat} {v : α} : ∀ {rs : List (Nat × α)}, look r rs = some v → (r, v) ∈ rs
  | [], h => by cases h
  | (k, u) :: t, h => by
    simp only [look] at h
    cases hb : Nat.beq k r <;> simp only [hb, cond_true, cond_false] at h
    · exact List.mem_cons_of_mem _ (look_in' h)
    · obtain rfl := Option.some.inj h
      have e := Nat.eq_of_beq_eq_true hb; subst e
      exact List.mem_cons_self ..
/-- THE TABLES ARE RIGHT. -/
theorem envOk_of (h1 : E.tyT.all (fun p => tyB P p.1 p.2) = true) (h2 : ∀ p ∈ E.fnT, P.funcs[p.1]? = some p.2 ∧ (p.2.name == "runtime.NumGoroutine") = false) (h3 : P.follows .mixedOrders = true) : EnvOk P E := by
  have key : ∀ t i, E.ty t = some i → tyB P t i = true := fun t i h => List.all_eq_true.mp h1 (t, i) (look_in' h)
  exact ⟨fun t i h => (tyB_ok (key t i h)).1, fun g fn h => h2 (g, fn) (look_in' h), h3, fun t i e h hk hu => (tyB_ok (key t i h)).2 e hk hu⟩
end
end Go.Proofs.Ytalmhjlcjcnidaa.Ev

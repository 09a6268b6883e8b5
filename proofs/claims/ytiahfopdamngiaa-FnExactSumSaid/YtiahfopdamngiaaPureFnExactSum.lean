/- The pure statement of the law FnExactSum: what the two printed functions compute is the same, for every input that the row reads; no condition beyond the row's own. -/
import Derived.Test.YtiahfopdamngiaaPFnExactSumx1
namespace Go.Proofs.Ytiahfopdamngiaa.Pure
open Go.RowKit Go.Proofs.Ytiahfopdamngiaa.PFnExactSum Go.Proofs.YtiahfopdamngiaaW.PrintWords Go.Proofs.YtiahfopdamngiaaW.PrintLast Go.Proofs.YtiahfopdamngiaaW.PrintMore

theorem wrapId {x : Int} (h : -9223372036854775808 ≤ x) (h' : x ≤ 9223372036854775807) : wrap64 x = x := by
  unfold wrap64; omega

theorem Ev.ite_pos {α : Type} {c : Prop} [Decidable c] {g f : Nat → Option α} {r : α} (hc : c) (h : Ev g r) : Ev (fun k => if c then g k else f k) r :=
  Ev.congr (fun _ => if_pos hc) h
theorem Ev.ite_neg {α : Type} {c : Prop} [Decidable c] {g f : Nat → Option α} {r : α} (hc : ¬ c) (h : Ev f r) : Ev (fun k => if c then g k else f k) r :=
  Ev.congr (fun _ => if_neg hc) h
theorem Ev.uniq {α : Type} {g : Nat → Option α} {r s : α} (h : Ev g r) (k : Ev g s) : r = s := by
  obtain ⟨K, h⟩ := h; obtain ⟨L, k⟩ := k
  have a := h (max K L) (by omega); have b := k (max K L) (by omega)
  rw [a] at b; exact Option.some.inj b
theorem Ev.all {α : Type} {g : Nat → Option α} {r : α} (h : ∀ k, g k = some r) : Ev g r := ⟨0, fun k _ => h k⟩

def ofL (l : List UInt8) : ByteArray := ⟨l.toArray⟩
theorem ofL_app (a b : List UInt8) : ofL a ++ ofL b = ofL (a ++ b) := by
  apply ByteArray.ext; simp [ofL]
theorem ofL_size (a : List UInt8) : (ofL a).size = a.length := by simp [ofL, ByteArray.size]
theorem ofL_toList (a : List UInt8) : (ofL a).toList = a := by simp [ofL]
theorem ofL_of (s : ByteArray) : ofL s.toList = s := by
  rw [ByteArray.toList_eq]; apply ByteArray.ext; simp [ofL]
theorem ofL_inj {a b : List UInt8} (h : ofL a = ofL b) : a = b := by
  rw [← ofL_toList a, h, ofL_toList]
theorem toList_inj {a b : ByteArray} (h : a.toList = b.toList) : a = b := by
  rw [← ofL_of a, h, ofL_of]
theorem toList_size (a : ByteArray) : a.toList.length = a.size := by
  rw [ByteArray.toList_eq]; exact Array.length_toList
theorem strOf_one (x : Int) : strOfNums [x] = ofL [UInt8.ofNat x.toNat] := rfl

def digU (n : Nat) : UInt8 := UInt8.ofNat (48 + n)
def decL (n : Nat) : List UInt8 := if n < 10 then [digU n] else decL (n / 10) ++ [digU (n % 10)]
termination_by n
decreasing_by omega
theorem decL_lt {n : Nat} (h : n < 10) : decL n = [digU n] := by rw [decL, if_pos h]
theorem decL_ge {n : Nat} (h : ¬ n < 10) : decL n = decL (n / 10) ++ [digU (n % 10)] := by rw [decL, if_neg h]
theorem decL_len : ∀ (d n : Nat), n < 10 ^ (d + 1) → 1 ≤ (decL n).length ∧ (decL n).length ≤ d + 1
  | 0, n, h => by rw [decL_lt (by simpa using h)]; simp
  | d + 1, n, h => by
    by_cases c : n < 10
    · rw [decL_lt c]; simp
    · have := decL_len d (n / 10) (by rw [Nat.pow_succ] at h; omega)
      rw [decL_ge c]; simp; omega
def numT (a : Int) : List UInt8 := if -1099511627775 ≤ a ∧ a ≤ 1099511627775 then (if a < 0 then 45 :: decL (-a).toNat else decL a.toNat) else []
theorem Ev.unroll {α : Type} {g : Nat → Option α} {r : α} (h : Ev (fun k => g (k + 1)) r) : Ev g r := Ev.step (fun _ => rfl) h
theorem Ev.ite_pos' {α : Type} {c : Prop} [Decidable c] {g f : Nat → Option α} {r : α} (h : Ev g r) (hc : c) : Ev (fun k => if c then g k else f k) r :=
  Ev.congr (fun _ => if_pos hc) h
theorem Ev.ite_neg' {α : Type} {c : Prop} [Decidable c] {g f : Nat → Option α} {r : α} (h : Ev f r) (hc : ¬ c) : Ev (fun k => if c then g k else f k) r :=
  Ev.congr (fun _ => if_neg hc) h
theorem Ev.ret {α : Type} {r s : α} (h : s = r) : Ev (fun _ => some s) r := h ▸ Ev.now _

/-- a loop that fills a list of n places -/
theorem ev_fill {β : Type} (g : Nat → List β → Int → Option (List β)) (n : Nat) (f : Nat → β)
    (step : ∀ i, i < n → ∀ x : List β, x.length = n → ∀ r, Ev (fun k => g k (x.set i (f i)) ((i + 1 : Nat) : Int)) r → Ev (fun k => g k x (i : Int)) r)
    (fin : ∀ x : List β, x.length = n → Ev (fun k => g k x (n : Int)) x) (x : List β) (hx : x.length = n) :
    Ev (fun k => g k x 0) ((List.range n).map f) := by
  have key : ∀ (d i : Nat) (x : List β), i + d = n → x.length = n → (∀ j, j < i → x[j]? = some (f j)) →
      Ev (fun k => g k x (i : Int)) ((List.range n).map f) := by
    intro d
    induction d with
    | zero =>
      intro i x hi hl hp
      have : i = n := by omega
      subst this
      have e : x = (List.range i).map f := by
        apply List.ext_getElem?
        intro j
        by_cases hj : j < i
        · rw [hp j hj]; simp [hj]
        · rw [List.getElem?_eq_none (by omega), List.getElem?_eq_none (by simp; omega)]
      rw [← e]; exact fin x hl
    | succ d ih =>
      intro i x hi hl hp
      refine step i (by omega) x hl _ (ih (i + 1) _ (by omega) (by simp [hl]) ?_)
      intro j hj
      by_cases e : j = i
      · subst e; rw [List.getElem?_set_self (by omega)]
      · rw [List.getElem?_set_ne (by omega)]; exact hp j (by omega)
  exact key n 0 x (by omega) hx (fun j hj => by omega)
theorem range_map_get {α : Type} (l : List α) (d : α) : (List.range l.length).map (fun i => l.getD i d) = l := by
  apply List.ext_getElem?
  intro j
  by_cases hj : j < l.length
  · simp [hj]
  · rw [List.getElem?_eq_none (by simp; omega), List.getElem?_eq_none (by omega)]
/-- a loop that asks place after place, and says yes at the end -/
theorem ev_ask {α : Type} (g : Nat → Int → Option α) (n : Nat) (r : α)
    (step : ∀ i, i < n → Ev (fun k => g k ((i + 1 : Nat) : Int)) r → Ev (fun k => g k (i : Int)) r)
    (fin : Ev (fun k => g k (n : Int)) r) : Ev (fun k => g k 0) r := by
  have key : ∀ (d i : Nat), i + d = n → Ev (fun k => g k (i : Int)) r := by
    intro d
    induction d with
    | zero => intro i hi; have : i = n := by omega
              subst this; exact fin
    | succ d ih => intro i hi; exact step i (by omega) (ih (i + 1) (by omega))
  exact key n 0 (by omega)

theorem ev_toByteS (l : List Int) (hl : l.length ≤ 140737488351232) : Ev (fun k => laws_toByteS.f k l) l := by
  unfold laws_toByteS.f
  refine Ev.ite_pos (by omega) (Ev.ite_pos (by omega) ?_)
  have h := ev_fill (fun k x i => laws_toByteS.l0 k l x i) l.length (fun i => l.getD i 0) (by
    intro i hi x hx r hr
    apply Ev.unroll
    simp only [laws_toByteS.l0]
    refine Ev.ite_pos (by omega) (Ev.ite_pos (by omega) (Ev.ite_pos (by omega) ?_))
    rw [wrapId (by omega) (by omega)]
    exact hr) (by
    intro x hx
    apply Ev.unroll
    simp only [laws_toByteS.l0]
    exact Ev.ite_neg (by omega) (Ev.now _)) (List.replicate l.length 0) (by simp)
  rw [range_map_get] at h
  exact h
theorem ev_eqByteS (l : List Int) (hl : l.length ≤ 281474976710656) : Ev (fun k => laws_eqByteS.f k l l) true := by
  unfold laws_eqByteS.f
  refine Ev.ite_pos rfl ?_
  refine ev_ask (fun k i => laws_eqByteS.l0 k l l i) l.length true ?_ ?_
  · intro i hi h
    apply Ev.unroll
    simp only [laws_eqByteS.l0]
    refine Ev.ite_pos (by omega) (Ev.ite_pos (by omega) (Ev.ite_pos (by omega) (Ev.ite_pos (by trivial) ?_)))
    rw [wrapId (by omega) (by omega)]
    exact h
  · apply Ev.unroll
    simp only [laws_eqByteS.l0]
    exact Ev.ite_neg (by omega) (Ev.now _)

theorem sum_same (k : Nat) : ∀ (a : Int) (l : List Int) (n i : Int), impl_Sum.l0 k a l n i = spec_Sum.l0 k a l n i := by
  induction k with
  | zero => intro a l n i; rfl
  | succ k ih => intro a l n i; simp only [impl_Sum.l0, spec_Sum.l0, ih]
theorem sum_ends (l : List Int) (hl : l.length ≤ 140737488351232) : ∀ (d i : Nat) (a : Int), i + d = l.length → ∃ r, Ev (fun k => spec_Sum.l0 k a l (l.length : Int) (i : Int)) r := by
  intro d
  induction d with
  | zero =>
    intro i a h
    refine ⟨a, Ev.unroll ?_⟩
    simp only [spec_Sum.l0]
    exact Ev.ite_neg (by omega) (Ev.now _)
  | succ d ih =>
    intro i a h
    obtain ⟨r, hr⟩ := ih (i + 1) (Int.tmod (wrap64 ((wrap64 ((wrap64 (257 * a)) + (wrap64 (rd l i)))) + 1)) 16777213) (by omega)
    refine ⟨r, Ev.unroll ?_⟩
    simp only [spec_Sum.l0]
    refine Ev.ite_pos (by omega) (Ev.ite_pos (by omega) (Ev.ite_pos (by omega) ?_))
    rw [wrapId (x := (i : Int) + 1) (by omega) (by omega)]
    exact hr
theorem FnExactSum : laws_FnExactSum.Pure := by
  intro l hm hl _
  apply Ev.rounds
  unfold laws_FnExactSum.f
  by_cases h : (l.length : Int) > 1048576
  · exact Ev.ite_pos h (Ev.now _)
  · refine Ev.ite_neg h ?_
    obtain ⟨r, hr⟩ := sum_ends l (by omega) l.length 0 1 (by omega)
    have hs : Ev (fun k => spec_Sum.f k l) r := hr
    have hi : Ev (fun k => impl_Sum.f k l) r := Ev.congr (fun k => sum_same k 1 l _ 0) hr
    refine Ev.bind (ev_toByteS l (by omega)) (Ev.bind hs (Ev.bind (ev_toByteS l (by omega)) (Ev.bind hi (Ev.ite_pos rfl ?_))))
    refine Ev.bind (ev_toByteS l (by omega)) (Ev.bind (ev_eqByteS l (by omega)) ?_)
    exact Ev.ite_pos rfl (Ev.now _)

end Go.Proofs.Ytiahfopdamngiaa.Pure

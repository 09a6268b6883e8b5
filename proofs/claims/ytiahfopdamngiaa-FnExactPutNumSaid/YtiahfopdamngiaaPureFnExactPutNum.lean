/- The pure statement of the law FnExactPutNum: what the two printed functions compute is the same, for every input that the row reads; no condition beyond the row's own. -/
import Derived.Test.YtiahfopdamngiaaPFnExactPutNumx2
namespace Go.Proofs.Ytiahfopdamngiaa.Pure
open Go.RowKit Go.Proofs.Ytiahfopdamngiaa.PFnExactPutNum Go.Proofs.YtiahfopdamngiaaW.PrintWords Go.Proofs.YtiahfopdamngiaaW.PrintLast Go.Proofs.YtiahfopdamngiaaW.PrintMore

theorem wrapId {x : Int} (h : -9223372036854775808 ≤ x) (h' : x ≤ 9223372036854775807) : wrap64 x = x := by
  unfold wrap64; omega

theorem Ev.ite_pos {α : Type} {c : Prop} [Decidable c] {g f : Nat → Option α} {r : α} (hc : c) (h : Ev g r) : Ev (fun k => if c then g k else f k) r :=
  Ev.congr (fun _ => if_pos hc) h
theorem Ev.ite_neg {α : Type} {c : Prop} [Decidable c] {g f : Nat → Option α} {r : α} (hc : ¬ c) (h : Ev f r) : Ev (fun k => if c then g k else f k) r :=
  Ev.congr (fun _ => if_neg hc) h
theorem Ev.uniq {α : Type} {g : Nat → Option α} {r s : α} (h : Ev g r) (k : Ev g s) : r = s := by
  obtain ⟨K, h⟩ := h; obtain ⟨L, k⟩ := k
  have a := h (max K L) (by omega); have b := k (max K L) (by omega)
  rw [a] at b; exact Option.some.inj b
theorem Ev.all {α : Type} {g : Nat → Option α} {r : α} (h : ∀ k, g k = some r) : Ev g r := ⟨0, fun k _ => h k⟩

def ofL (l : List UInt8) : ByteArray := ⟨l.toArray⟩
theorem ofL_app (a b : List UInt8) : ofL a ++ ofL b = ofL (a ++ b) := by
  apply ByteArray.ext; simp [ofL]
theorem ofL_size (a : List UInt8) : (ofL a).size = a.length := by simp [ofL, ByteArray.size]
theorem ofL_toList (a : List UInt8) : (ofL a).toList = a := by simp [ofL]
theorem ofL_of (s : ByteArray) : ofL s.toList = s := by
  rw [ByteArray.toList_eq]; apply ByteArray.ext; simp [ofL]
theorem ofL_inj {a b : List UInt8} (h : ofL a = ofL b) : a = b := by
  rw [← ofL_toList a, h, ofL_toList]
theorem toList_inj {a b : ByteArray} (h : a.toList = b.toList) : a = b := by
  rw [← ofL_of a, h, ofL_of]
theorem toList_size (a : ByteArray) : a.toList.length = a.size := by
  rw [ByteArray.toList_eq]; exact Array.length_toList
theorem strOf_one (x : Int) : strOfNums [x] = ofL [UInt8.ofNat x.toNat] := rfl

def digU (n : Nat) : UInt8 := UInt8.ofNat (48 + n)
def decL (n : Nat) : List UInt8 := if n < 10 then [digU n] else decL (n / 10) ++ [digU (n % 10)]
termination_by n
decreasing_by omega
theorem decL_lt {n : Nat} (h : n < 10) : decL n = [digU n] := by rw [decL, if_pos h]
theorem decL_ge {n : Nat} (h : ¬ n < 10) : decL n = decL (n / 10) ++ [digU (n % 10)] := by rw [decL, if_neg h]
theorem decL_len : ∀ (d n : Nat), n < 10 ^ (d + 1) → 1 ≤ (decL n).length ∧ (decL n).length ≤ d + 1
  | 0, n, h => by rw [decL_lt (by simpa using h)]; simp
  | d + 1, n, h => by
    by_cases c : n < 10
    · rw [decL_lt c]; simp
    · have := decL_len d (n / 10) (by rw [Nat.pow_succ] at h; omega)
      rw [decL_ge c]; simp; omega
def numT (a : Int) : List UInt8 := if -1099511627775 ≤ a ∧ a ≤ 1099511627775 then (if a < 0 then 45 :: decL (-a).toNat else decL a.toNat) else []
theorem Ev.unroll {α : Type} {g : Nat → Option α} {r : α} (h : Ev (fun k => g (k + 1)) r) : Ev g r := Ev.step (fun _ => rfl) h
theorem Ev.ite_pos' {α : Type} {c : Prop} [Decidable c] {g f : Nat → Option α} {r : α} (h : Ev g r) (hc : c) : Ev (fun k => if c then g k else f k) r :=
  Ev.congr (fun _ => if_pos hc) h
theorem Ev.ite_neg' {α : Type} {c : Prop} [Decidable c] {g f : Nat → Option α} {r : α} (h : Ev f r) (hc : ¬ c) : Ev (fun k => if c then g k else f k) r :=
  Ev.congr (fun _ => if_neg hc) h
theorem Ev.ret {α : Type} {r s : α} (h : s = r) : Ev (fun _ => some s) r := h ▸ Ev.now _

/-- a loop that fills a list of n places -/
theorem ev_fill {β : Type} (g : Nat → List β → Int → Option (List β)) (n : Nat) (f : Nat → β)
    (step : ∀ i, i < n → ∀ x : List β, x.length = n → ∀ r, Ev (fun k => g k (x.set i (f i)) ((i + 1 : Nat) : Int)) r → Ev (fun k => g k x (i : Int)) r)
    (fin : ∀ x : List β, x.length = n → Ev (fun k => g k x (n : Int)) x) (x : List β) (hx : x.length = n) :
    Ev (fun k => g k x 0) ((List.range n).map f) := by
  have key : ∀ (d i : Nat) (x : List β), i + d = n → x.length = n → (∀ j, j < i → x[j]? = some (f j)) →
      Ev (fun k => g k x (i : Int)) ((List.range n).map f) := by
    intro d
    induction d with
    | zero =>
      intro i x hi hl hp
      have : i = n := by omega
      subst this
      have e : x = (List.range i).map f := by
        apply List.ext_getElem?
        intro j
        by_cases hj : j < i
        · rw [hp j hj]; simp [hj]
        · rw [List.getElem?_eq_none (by omega), List.getElem?_eq_none (by simp; omega)]
      rw [← e]; exact fin x hl
    | succ d ih =>
      intro i x hi hl hp
      refine step i (by omega) x hl _ (ih (i + 1) _ (by omega) (by simp [hl]) ?_)
      intro j hj
      by_cases e : j = i
      · subst e; rw [List.getElem?_set_self (by omega)]
      · rw [List.getElem?_set_ne (by omega)]; exact hp j (by omega)
  exact key n 0 x (by omega) hx (fun j hj => by omega)
theorem range_map_get {α : Type} (l : List α) (d : α) : (List.range l.length).map (fun i => l.getD i d) = l := by
  apply List.ext_getElem?
  intro j
  by_cases hj : j < l.length
  · simp [hj]
  · rw [List.getElem?_eq_none (by simp; omega), List.getElem?_eq_none (by omega)]
/-- a loop that asks place after place, and says yes at the end -/
theorem ev_ask {α : Type} (g : Nat → Int → Option α) (n : Nat) (r : α)
    (step : ∀ i, i < n → Ev (fun k => g k ((i + 1 : Nat) : Int)) r → Ev (fun k => g k (i : Int)) r)
    (fin : Ev (fun k => g k (n : Int)) r) : Ev (fun k => g k 0) r := by
  have key : ∀ (d i : Nat), i + d = n → Ev (fun k => g k (i : Int)) r := by
    intro d
    induction d with
    | zero => intro i hi; have : i = n := by omega
              subst this; exact fin
    | succ d ih => intro i hi; exact step i (by omega) (ih (i + 1) (by omega))
  exact key n 0 (by omega)

theorem ev_toByteS (l : List Int) (hl : l.length ≤ 140737488351232) : Ev (fun k => laws_toByteS.f k l) l := by
  unfold laws_toByteS.f
  refine Ev.ite_pos (by omega) (Ev.ite_pos (by omega) ?_)
  have h := ev_fill (fun k x i => laws_toByteS.l0 k l x i) l.length (fun i => l.getD i 0) (by
    intro i hi x hx r hr
    apply Ev.unroll
    simp only [laws_toByteS.l0]
    refine Ev.ite_pos (by omega) (Ev.ite_pos (by omega) (Ev.ite_pos (by omega) ?_))
    rw [wrapId (by omega) (by omega)]
    exact hr) (by
    intro x hx
    apply Ev.unroll
    simp only [laws_toByteS.l0]
    exact Ev.ite_neg (by omega) (Ev.now _)) (List.replicate l.length 0) (by simp)
  rw [range_map_get] at h
  exact h
theorem ev_eqByteS (l : List Int) (hl : l.length ≤ 281474976710656) : Ev (fun k => laws_eqByteS.f k l l) true := by
  unfold laws_eqByteS.f
  refine Ev.ite_pos rfl ?_
  refine ev_ask (fun k i => laws_eqByteS.l0 k l l i) l.length true ?_ ?_
  · intro i hi h
    apply Ev.unroll
    simp only [laws_eqByteS.l0]
    refine Ev.ite_pos (by omega) (Ev.ite_pos (by omega) (Ev.ite_pos (by omega) (Ev.ite_pos (by trivial) ?_)))
    rw [wrapId (by omega) (by omega)]
    exact h
  · apply Ev.unroll
    simp only [laws_eqByteS.l0]
    exact Ev.ite_neg (by omega) (Ev.now _)

theorem ev_markByteS (l : List Int) (hl : l.length ≤ 281474976710656) : Ev (fun k => laws_markByteS.f k l 1) (1 + (l.length : Int), (List.range l.length).map (fun i : Nat => ((i : Int) + 1) % 256)) := by
  unfold laws_markByteS.f
  have key : ∀ (d i : Nat) (x : List Int), i + d = l.length → x.length = l.length → (∀ j, j < i → x[j]? = some (((j : Int) + 1) % 256)) →
      Ev (fun k => laws_markByteS.l0 k x (1 + (i : Int)) (i : Int)) (1 + (l.length : Int), (List.range l.length).map (fun i : Nat => ((i : Int) + 1) % 256)) := by
    intro d
    induction d with
    | zero =>
      intro i x hi hx hp
      apply Ev.unroll
      simp only [laws_markByteS.l0]
      refine Ev.ite_neg (by omega) (Ev.ret ?_)
      have : i = l.length := by omega
      subst this
      congr 1
      apply List.ext_getElem?
      intro j
      by_cases hj : j < l.length
      · rw [hp j hj]; simp [hj]
      · rw [List.getElem?_eq_none (by omega), List.getElem?_eq_none (by simp; omega)]
    | succ d ih =>
      intro i x hi hx hp
      apply Ev.unroll
      simp only [laws_markByteS.l0]
      refine Ev.ite_pos (by omega) (Ev.ite_pos (by omega) ?_)
      rw [wrapId (by omega) (by omega), wrapId (by omega) (by omega)]
      have := ih (i + 1) (x.set i ((1 + (i : Int)) % 256)) (by omega) (by simp [hx]) (by
        intro j hj
        by_cases e : j = i
        · subst e; rw [List.getElem?_set_self (by omega), Int.add_comm]
        · rw [List.getElem?_set_ne (by omega)]; exact hp j (by omega))
      rw [show (1 : Int) + ((i + 1 : Nat) : Int) = 1 + (i : Int) + 1 by omega] at this
      exact this
  exact key l.length 0 l (by omega) rfl (fun j hj => by omega)
theorem ev_heldByteS (n : Nat) (hl : n ≤ 281474976710656) : Ev (fun k => laws_heldByteS.f k ((List.range n).map (fun i : Nat => ((i : Int) + 1) % 256)) 1) (1 + (n : Int)) := by
  unfold laws_heldByteS.f
  have key : ∀ (d i : Nat), i + d = n → Ev (fun k => laws_heldByteS.l0 k ((List.range n).map (fun i : Nat => ((i : Int) + 1) % 256)) (1 + (i : Int)) (i : Int)) (1 + (n : Int)) := by
    intro d
    induction d with
    | zero =>
      intro i hi
      apply Ev.unroll
      simp only [laws_heldByteS.l0]
      refine Ev.ite_neg (by simp; omega) (Ev.ret (by omega))
    | succ d ih =>
      intro i hi
      apply Ev.unroll
      simp only [laws_heldByteS.l0]
      refine Ev.ite_pos (by simp; omega) (Ev.ite_pos (by omega) (Ev.ite_pos ?_ ?_))
      · have hin : i < n := by omega
        unfold rd; simp [hin]; rw [Int.add_comm]
      · rw [wrapId (by omega) (by omega), wrapId (by omega) (by omega)]
        have := ih (i + 1) (by omega)
        rw [show (1 : Int) + ((i + 1 : Nat) : Int) = 1 + (i : Int) + 1 by omega] at this
        exact this
  exact key n 0 (by omega)

def putD (n : Int) : Nat → List Int
  | 0 => []
  | d + 1 => (n / 256 ^ d % 256) :: putD n d
theorem putD_len (n : Int) : ∀ d, (putD n d).length = d
  | 0 => rfl
  | d + 1 => by simp [putD, putD_len n d]
theorem pow_le6 {d : Nat} (h : d ≤ 6) : (1 : Int) ≤ 256 ^ d ∧ (256 : Int) ^ d ≤ 281474976710656 := by
  rcases d with _ | _ | _ | _ | _ | _ | _ | d <;> first | omega | decide
theorem spec_pow (n : Nat) (hn : n ≤ 6) : Ev (fun k => spec_l06Pow.f k (n : Int)) (256 ^ n) := by
  unfold spec_l06Pow.f
  have key : ∀ (d i : Nat), i + d = n → Ev (fun k => spec_l06Pow.l0 k (n : Int) (256 ^ i) (i : Int)) (256 ^ n) := by
    intro d
    induction d with
    | zero =>
      intro i hi
      apply Ev.unroll
      simp only [spec_l06Pow.l0]
      exact Ev.ite_neg (by omega) (Ev.ret (by congr 1))
    | succ d ih =>
      intro i hi
      apply Ev.unroll
      simp only [spec_l06Pow.l0]
      refine Ev.ite_pos (by omega) ?_
      have h := ih (i + 1) (by omega)
      have hp := pow_le6 (d := i + 1) (by omega)
      rw [Int.pow_succ] at h hp
      rw [wrapId (by omega) (by omega), wrapId (by omega) (by omega)]
      exact h
  exact key n 0 (by omega)
theorem spec_put_l0 (n : Int) (h0 : 0 ≤ n) (h1 : n < 281474976710656) : ∀ (d : Nat) (x : List Int), d ≤ 6 → x.length + d < 140737488355328 →
    Ev (fun k => spec_PutNum.l0 k n x ((d : Int) - 1)) (x ++ putD n d, true) := by
  intro d
  induction d with
  | zero =>
    intro x _ hx
    apply Ev.unroll
    simp only [spec_PutNum.l0]
    exact Ev.ite_neg (by omega) (Ev.ret (by simp [putD]))
  | succ d ih =>
    intro x hd hx
    apply Ev.unroll
    simp only [spec_PutNum.l0]
    have hp := pow_le6 (d := d) (by omega)
    have hq : 0 ≤ n / 256 ^ d := Int.ediv_nonneg h0 (by omega)
    have hq2 : n / 256 ^ d ≤ n := Int.ediv_le_self _ h0
    refine Ev.ite_pos (by omega) ?_
    rw [show ((d + 1 : Nat) : Int) - 1 = (d : Int) by omega]
    refine Ev.bind (spec_pow d (by omega)) ?_
    refine Ev.ite_neg (by omega) (Ev.ite_pos (by omega) ?_)
    rw [Int.tdiv_eq_ediv_of_nonneg h0, wrapId (x := n / 256 ^ d) (by omega) (by omega), Int.tmod_eq_emod_of_nonneg hq, wrapId (x := (d : Int) - 1) (by omega) (by omega),
      Int.emod_eq_of_lt (a := n / 256 ^ d % 256) (by omega) (by omega)]
    have := ih (x ++ [n / 256 ^ d % 256]) (by omega) (by simp; omega)
    simpa [putD] using this
theorem shr_eq (n : Int) {d : Nat} (hd : d ≤ 6) : shr .i64 n (wrap64 (8 * (d : Int))) = n / 256 ^ d := by
  rw [wrapId (by omega) (by omega)]
  unfold shr
  have e : min (8 * (d : Int)).toNat IntKind.i64.bits = 8 * d := by
    rw [show IntKind.i64.bits = 64 from rfl]; omega
  rw [e, Int.pow_mul]
  rfl
theorem impl_put_l0 (n : Int) : ∀ (d : Nat) (x : List Int), d ≤ 6 → x.length + d < 140737488355328 →
    Ev (fun k => impl_PutNum.l0 k n x ((d : Int) - 1)) (x ++ putD n d, true) := by
  intro d
  induction d with
  | zero =>
    intro x _ hx
    apply Ev.unroll
    simp only [impl_PutNum.l0]
    exact Ev.ite_neg (by omega) (Ev.ret (by simp [putD]))
  | succ d ih =>
    intro x hd hx
    apply Ev.unroll
    simp only [impl_PutNum.l0]
    refine Ev.ite_pos (by omega) ?_
    rw [show ((d + 1 : Nat) : Int) - 1 = (d : Int) by omega, shr_eq n (by omega)]
    refine Ev.ite_pos (by rw [wrapId (by omega) (by omega)]; omega) (Ev.ite_pos (by omega) ?_)
    rw [wrapId (x := (d : Int) - 1) (by omega) (by omega)]
    have := ih (x ++ [n / 256 ^ d % 256]) (by omega) (by simp; omega)
    simpa [putD] using this
/-- what PutNum is -/
def putR (l : List Int) (n size : Int) : List Int × Bool :=
  if 1 ≤ size ∧ size ≤ 6 ∧ 0 ≤ n ∧ n < 256 ^ size.toNat then (l ++ putD n size.toNat, true) else ([], false)
theorem putR_len (l : List Int) (n size : Int) : (putR l n size).1.length ≤ l.length + 6 := by
  unfold putR; split
  · simp [putD_len]; omega
  · simp
theorem spec_put (l : List Int) (n size : Int) (hl : l.length ≤ 1048576) : Ev (fun k => spec_PutNum.f k l n size) (putR l n size) := by
  unfold spec_PutNum.f
  have no : ¬ (1 ≤ size ∧ size ≤ 6 ∧ 0 ≤ n ∧ n < 256 ^ size.toNat) → Ev (fun k => spec_PutNum.j0 k l n size true) (putR l n size) := by
    intro h
    apply Ev.unroll
    simp only [spec_PutNum.j0]
    exact Ev.ite_pos (by trivial) (Ev.ret (by unfold putR; rw [if_neg h]))
  by_cases c1 : size < 1
  · exact Ev.ite_pos c1 (no (by omega))
  refine Ev.ite_neg c1 ?_
  by_cases c2 : size > 6
  · exact Ev.ite_pos c2 (no (by omega))
  refine Ev.ite_neg c2 ?_
  by_cases c3 : n < 0
  · exact Ev.ite_pos c3 (no (by omega))
  refine Ev.ite_neg c3 ?_
  obtain ⟨s, rfl⟩ : ∃ s : Nat, size = (s : Int) := ⟨size.toNat, by omega⟩
  refine Ev.bind (spec_pow s (by omega)) ?_
  by_cases c4 : n ≥ 256 ^ s
  · rw [decide_eq_true c4]; exact no (by simp only [Int.toNat_natCast]; omega)
  rw [decide_eq_false c4]
  apply Ev.unroll
  simp only [spec_PutNum.j0]
  refine Ev.ite_neg (by simp) ?_
  have hp := pow_le6 (d := s) (by omega)
  simp only [Option.bind_some, List.nil_append, List.length_nil]
  refine Ev.ite_pos (by omega) ?_
  rw [wrapId (by omega) (by omega)]
  have h := spec_put_l0 n (by omega) (by omega) s l (by omega) (by omega)
  unfold putR
  rw [if_pos (by simp only [Int.toNat_natCast]; omega)]
  exact h
theorem shl_eq {s : Nat} (hs : s ≤ 6) : wrap64 (shl .i64 1 (wrap64 (8 * (s : Int))) - 1) = 256 ^ s - 1 := by
  rw [wrapId (x := 8 * (s : Int)) (by omega) (by omega)]
  unfold shl
  have e : min (8 * (s : Int)).toNat IntKind.i64.bits = 8 * s := by
    rw [show IntKind.i64.bits = 64 from rfl]; omega
  rw [e, Int.pow_mul]
  rcases s with _ | _ | _ | _ | _ | _ | _ | s <;> first | omega | decide +kernel
theorem impl_put (l : List Int) (n size : Int) (hl : l.length ≤ 1048576) : Ev (fun k => impl_PutNum.f k l n size) (putR l n size) := by
  unfold impl_PutNum.f impl_within.f
  have no : ¬ (1 ≤ size ∧ size ≤ 6 ∧ 0 ≤ n ∧ n < 256 ^ size.toNat) → Ev (fun k => impl_PutNum.j0 k l n size true) (putR l n size) := by
    intro h
    apply Ev.unroll
    simp only [impl_PutNum.j0]
    exact Ev.ite_pos (by trivial) (Ev.ret (by unfold putR; rw [if_neg h]))
  by_cases c1 : size ≥ 1
  · rw [if_pos c1]
    simp only [Option.bind_some, decide_eq_true_eq]
    by_cases c2 : size ≤ 6
    · refine Ev.ite_pos c2 (Ev.ite_pos (by rw [wrapId (by omega) (by omega)]; omega) ?_)
      obtain ⟨s, rfl⟩ : ∃ s : Nat, size = (s : Int) := ⟨size.toNat, by omega⟩
      rw [shl_eq (by omega)]
      by_cases c3 : n ≥ 0
      · rw [if_pos c3]
        simp only [Option.bind_some]
        by_cases c4 : n ≤ 256 ^ s - 1
        · rw [decide_eq_true c4]
          apply Ev.unroll
          simp only [impl_PutNum.j0]
          refine Ev.ite_neg (by simp) ?_
          simp only [Option.bind_some, List.nil_append, List.length_nil]
          refine Ev.ite_pos (by omega) ?_
          rw [wrapId (by omega) (by omega)]
          have h := impl_put_l0 n s l (by omega) (by omega)
          unfold putR
          rw [if_pos (by simp only [Int.toNat_natCast]; omega)]
          exact h
        · rw [decide_eq_false c4]
          exact no (by simp only [Int.toNat_natCast]; omega)
      · rw [if_neg c3]
        simp only [Option.bind_some, Bool.not_false]
        exact no (by omega)
    · exact Ev.ite_neg c2 (no (by omega))
  · rw [if_neg c1]
    simp only [Option.bind_some]
    exact Ev.ite_neg (by simp) (no (by omega))

theorem FnExactPutNum : laws_FnExactPutNum.Pure := by
  intro l n size _ hl _ _ _
  apply Ev.rounds
  unfold laws_FnExactPutNum.f
  by_cases h : (l.length : Int) > 1048576
  · exact Ev.ite_pos h (Ev.now _)
  refine Ev.ite_neg h ?_
  have hg : (putR l n size).1.length ≤ 281474976710656 := by have := putR_len l n size; omega
  refine Ev.bind (ev_toByteS l (by omega)) (Ev.bind (spec_put l n size (by omega)) (Ev.bind (ev_toByteS l (by omega)) (Ev.bind (impl_put l n size (by omega)) (Ev.bind (ev_eqByteS _ hg) (Ev.ite_pos rfl ?_)))))
  rw [bne_self_eq_false]
  apply Ev.unroll
  simp only [laws_FnExactPutNum.j0]
  refine Ev.ite_neg (by simp) (Ev.bind (ev_toByteS l (by omega)) (Ev.bind (ev_eqByteS _ (by omega)) (Ev.ite_pos rfl (Ev.bind (ev_markByteS l (by omega)) (Ev.ite_neg (by omega) (Ev.bind (ev_eqByteS _ hg) (Ev.ite_pos rfl ?_)))))))
  rw [bne_self_eq_false]
  apply Ev.unroll
  simp only [laws_FnExactPutNum.j1]
  refine Ev.ite_neg (by simp) (Ev.bind (ev_markByteS _ hg) (Ev.bind (ev_heldByteS _ hg) (Ev.ite_neg (by omega) (Ev.ite_pos rfl ?_))))
  refine Ev.bind (ev_toByteS l (by omega)) (Ev.bind (impl_put l n size (by omega)) (Ev.bind (ev_eqByteS _ hg) (Ev.ite_pos rfl ?_)))
  rw [bne_self_eq_false]
  apply Ev.unroll
  simp only [laws_FnExactPutNum.j2]
  exact Ev.ite_neg (by simp) (Ev.bind (ev_heldByteS _ hg) (Ev.ite_neg (by omega) (Ev.ite_pos rfl (Ev.now _))))

end Go.Proofs.Ytiahfopdamngiaa.Pure

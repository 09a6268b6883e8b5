/- The pure statement of the law FnExactWordOk: what the two printed functions compute is the same, for every input that the row reads; no condition beyond the row's own. -/
import Derived.Test.YtiahfopdamngiaaPFnExactWordOkx1
namespace Go.Proofs.Ytiahfopdamngiaa.Pure
open Go.RowKit Go.Proofs.Ytiahfopdamngiaa.PFnExactWordOk Go.Proofs.YtiahfopdamngiaaW.PrintWords Go.Proofs.YtiahfopdamngiaaW.PrintLast Go.Proofs.YtiahfopdamngiaaW.PrintMore

theorem wrapId {x : Int} (h : -9223372036854775808 ≤ x) (h' : x ≤ 9223372036854775807) : wrap64 x = x := by
  unfold wrap64; omega

theorem Ev.ite_pos {α : Type} {c : Prop} [Decidable c] {g f : Nat → Option α} {r : α} (hc : c) (h : Ev g r) : Ev (fun k => if c then g k else f k) r :=
  Ev.congr (fun _ => if_pos hc) h
theorem Ev.ite_neg {α : Type} {c : Prop} [Decidable c] {g f : Nat → Option α} {r : α} (hc : ¬ c) (h : Ev f r) : Ev (fun k => if c then g k else f k) r :=
  Ev.congr (fun _ => if_neg hc) h
theorem Ev.uniq {α : Type} {g : Nat → Option α} {r s : α} (h : Ev g r) (k : Ev g s) : r = s := by
  obtain ⟨K, h⟩ := h; obtain ⟨L, k⟩ := k
  have a := h (max K L) (by omega); have b := k (max K L) (by omega)
  rw [a] at b; exact Option.some.inj b
theorem Ev.all {α : Type} {g : Nat → Option α} {r : α} (h : ∀ k, g k = some r) : Ev g r := ⟨0, fun k _ => h k⟩

def ofL (l : List UInt8) : ByteArray := ⟨l.toArray⟩
theorem ofL_app (a b : List UInt8) : ofL a ++ ofL b = ofL (a ++ b) := by
  apply ByteArray.ext; simp [ofL]
theorem ofL_size (a : List UInt8) : (ofL a).size = a.length := by simp [ofL, ByteArray.size]
theorem ofL_toList (a : List UInt8) : (ofL a).toList = a := by simp [ofL]
theorem ofL_of (s : ByteArray) : ofL s.toList = s := by
  rw [ByteArray.toList_eq]; apply ByteArray.ext; simp [ofL]
theorem ofL_inj {a b : List UInt8} (h : ofL a = ofL b) : a = b := by
  rw [← ofL_toList a, h, ofL_toList]
theorem toList_inj {a b : ByteArray} (h : a.toList = b.toList) : a = b := by
  rw [← ofL_of a, h, ofL_of]
theorem toList_size (a : ByteArray) : a.toList.length = a.size := by
  rw [ByteArray.toList_eq]; exact Array.length_toList
theorem strOf_one (x : Int) : strOfNums [x] = ofL [UInt8.ofNat x.toNat] := rfl

def digU (n : Nat) : UInt8 := UInt8.ofNat (48 + n)
def decL (n : Nat) : List UInt8 := if n < 10 then [digU n] else decL (n / 10) ++ [digU (n % 10)]
termination_by n
decreasing_by omega
theorem decL_lt {n : Nat} (h : n < 10) : decL n = [digU n] := by rw [decL, if_pos h]
theorem decL_ge {n : Nat} (h : ¬ n < 10) : decL n = decL (n / 10) ++ [digU (n % 10)] := by rw [decL, if_neg h]
theorem decL_len : ∀ (d n : Nat), n < 10 ^ (d + 1) → 1 ≤ (decL n).length ∧ (decL n).length ≤ d + 1
  | 0, n, h => by rw [decL_lt (by simpa using h)]; simp
  | d + 1, n, h => by
    by_cases c : n < 10
    · rw [decL_lt c]; simp
    · have := decL_len d (n / 10) (by rw [Nat.pow_succ] at h; omega)
      rw [decL_ge c]; simp; omega
def numT (a : Int) : List UInt8 := if -1099511627775 ≤ a ∧ a ≤ 1099511627775 then (if a < 0 then 45 :: decL (-a).toNat else decL a.toNat) else []

theorem wordOk_same (k : Nat) : ∀ (s : ByteArray) (i : Int), impl_WordOk.l0 k s i = spec_WordOk.l0 k s i := by
  induction k with
  | zero => intro s i; rfl
  | succ k ih =>
    intro s i
    simp only [impl_WordOk.l0, spec_WordOk.l0, impl_within.f, ih]
    by_cases h : (s.size : Int) ≥ 1
    · simp only [if_pos h, Option.bind_some]
    · simp only [if_neg h, Option.bind_some]
def wordB (s : ByteArray) : Bool := s.toList.all (fun c => decide (97 ≤ c.toNat ∧ c.toNat ≤ 122)) && decide (1 ≤ s.size ∧ s.size ≤ 8)
theorem wordOk_l0 (s : ByteArray) (hs : s.size ≤ 140737488351232) (d : Nat) : ∀ (k : Nat) (i : Nat), i ≤ s.size → s.size - i = d → d < k →
    (∀ j (h : j < s.toList.length), j < i → 97 ≤ (s.toList[j]).toNat ∧ (s.toList[j]).toNat ≤ 122) →
    spec_WordOk.l0 k s (i : Int) = some (wordB s) := by
  induction d with
  | zero =>
    intro k i h1 hd hk hp
    obtain ⟨k, rfl⟩ : ∃ m, k = m + 1 := ⟨k - 1, by omega⟩
    have hi : i = s.size := by omega
    subst hi
    simp only [spec_WordOk.l0]
    rw [if_neg (by omega)]
    have ha : s.toList.all (fun c => decide (97 ≤ c.toNat ∧ c.toNat ≤ 122)) = true := by
      rw [List.all_eq_true]
      intro x hx
      obtain ⟨j, hj, rfl⟩ := List.getElem_of_mem hx
      rw [decide_eq_true_eq]
      exact hp j hj (by rw [← toList_size]; exact hj)
    unfold wordB
    rw [ha, Bool.true_and]
    by_cases h : (s.size : Int) ≥ 1
    · rw [if_pos h]; congr 1; rw [decide_eq_decide]; omega
    · rw [if_neg h]; congr 1; symm; rw [decide_eq_false_iff_not]; omega
  | succ d ih =>
    intro k i h1 hd hk hp
    obtain ⟨k, rfl⟩ : ∃ m, k = m + 1 := ⟨k - 1, by omega⟩
    have hlt : i < s.size := by omega
    have hlt' : i < s.toList.length := by rw [toList_size]; exact hlt
    have hb : bt s (i : Int) = ((s.toList[i]).toNat : Int) := by
      unfold bt; rw [dif_pos (by simpa using hlt)]; simp [ByteArray.toList_eq]; rfl
    have hno : ¬ (97 ≤ (s.toList[i]).toNat ∧ (s.toList[i]).toNat ≤ 122) → wordB s = false := by
      intro h
      unfold wordB
      rw [Bool.and_eq_false_iff]; left
      rw [← Bool.not_eq_true, List.all_eq_true]
      intro hall
      have := hall _ (List.getElem_mem hlt')
      rw [decide_eq_true_eq] at this
      exact h this
    simp only [spec_WordOk.l0]
    rw [if_pos (by omega), if_pos (by omega), hb]
    by_cases c1 : ((s.toList[i]).toNat : Int) < 97
    · rw [if_pos c1, hno (by omega)]
    · rw [if_neg c1]
      by_cases c2 : ((s.toList[i]).toNat : Int) > 122
      · rw [if_pos c2, hno (by omega)]
      · rw [if_neg c2, wrapId (by omega) (by omega)]
        have := ih k (i + 1) (by omega) (by omega) (by omega) (by
          intro j hj hlt2
          by_cases e : j = i
          · subst e; omega
          · exact hp j hj (by omega))
        exact this
theorem spec_word (s : ByteArray) (hs : s.size ≤ 140737488351232) : Ev (fun k => spec_WordOk.f k s) (wordB s) :=
  ⟨s.size + 1, fun k hk => wordOk_l0 s hs s.size k 0 (by omega) (by omega) (by omega) (by omega)⟩
theorem impl_word (s : ByteArray) (hs : s.size ≤ 140737488351232) : Ev (fun k => impl_WordOk.f k s) (wordB s) :=
  Ev.congr (fun k => wordOk_same k s 0) (spec_word s hs)

theorem FnExactWordOk : laws_FnExactWordOk.Pure := by
  intro s hs
  apply Ev.rounds
  unfold laws_FnExactWordOk.f
  by_cases h : (s.size : Int) > 1048576
  · exact Ev.ite_pos h (Ev.now _)
  · refine Ev.ite_neg h ?_
    refine Ev.bind (spec_word s hs) ?_
    refine Ev.bind (impl_word s hs) ?_
    simp only [bne_self_eq_false, Bool.false_eq_true, if_false]
    exact Ev.now _

end Go.Proofs.Ytiahfopdamngiaa.Pure

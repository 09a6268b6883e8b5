/- Words for the plain laws: what holds from some fuel on; steps of loops over lists; texts as lists of bytes. -/
import Derived.Test.YtjopjjmhpadncaaGreatEvFnFnExactSameDb
import Derived.Test.YtjopjjmhpadncaaGreatEvLaw
set_option linter.all false
namespace Go.Proofs.YtjopjjmhpadncaaGreat.Ev
open Go
set_option linter.unusedVariables false
/-- from some fuel on -/
def EV (p : Nat → Prop) : Prop := ∃ N, ∀ n, N ≤ n → p n
theorem EV.and {p q : Nat → Prop} (h1 : EV p) (h2 : EV q) : EV fun n => p n ∧ q n := by
  obtain ⟨N, h1⟩ := h1; obtain ⟨M, h2⟩ := h2
  exact ⟨max N M, fun n hn => ⟨h1 n (by omega), h2 n (by omega)⟩⟩
theorem EV.mono {p q : Nat → Prop} (h : EV p) (hpq : ∀ n, p n → q n) : EV q := by
  obtain ⟨N, h⟩ := h; exact ⟨N, fun n hn => hpq n (h n hn)⟩
theorem EV.gt (k : Nat) : EV fun n => k < n := ⟨k + 1, fun n hn => hn⟩
theorem EV.true : EV fun _ => True := ⟨0, fun _ _ => trivial⟩
theorem EV.of {p : Nat → Prop} (h : ∀ n, p n) : EV p := ⟨0, fun n _ => h n⟩
/-- one call deeper -/
theorem EV.up {p q : Nat → Prop} (h : EV p) (hpq : ∀ n, p n → q (n + 1)) : EV q := by
  obtain ⟨N, h⟩ := h
  refine ⟨N + 1, fun n hn => ?_⟩
  obtain ⟨m, rfl⟩ : ∃ m, n = m + 1 := ⟨n - 1, by omega⟩
  exact hpq m (h m (by omega))
theorem EV.all {α : Type} {p : α → Nat → Prop} : ∀ {l : List α}, (∀ x ∈ l, EV (p x)) → EV fun n => ∀ x ∈ l, p x n
  | [], _ => ⟨0, by simp⟩
  | a :: l, h => ((h a (List.mem_cons_self ..)).and (EV.all fun x hx => h x (List.mem_cons_of_mem _ hx))).mono fun n hn x hx => by
      rcases List.mem_cons.mp hx with rfl | hx
      · exact hn.1
      · exact hn.2 x hx
/-! ### whole numbers -/
theorem wrap64 {x : Int} (h1 : -9223372036854775808 ≤ x) (h2 : x ≤ 9223372036854775807) : IntKind.wrap .i64 x = x := by
  have e : IntKind.wrap .i64 x = (if x % 18446744073709551616 ≥ 9223372036854775808 then x % 18446744073709551616 - 18446744073709551616 else x % 18446744073709551616) := by
    simp [IntKind.wrap, IntKind.bits, IntKind.signed]
  rw [e]; split <;> omega
theorem inR_nat {k n : Nat} : inR (k : Int) n = decide (k < n) := by simp [inR]
theorem inR_true {k n : Nat} (h : k < n) : inR (k : Int) n = true := by simp [inR_nat, h]
theorem wrap_succ {k n : Nat} (h : k < n) (hn : n < 4611686018427387904) : IntKind.wrap .i64 ((k : Int) + (1 : Int)) = ((k + 1 : Nat) : Int) := by
  rw [wrap64] <;> omega
theorem lt_cast {k n : Nat} : (decide ((k : Int) < (n : Int))) = decide (k < n) := by simp
theorem getD_at {α : Type} {l : List α} {k : Nat} {z : α} (h : k < l.length) : l.getD k z = l[k] := by simp [List.getD, h]
theorem int_beq (a b : Int) : (a == b) = decide (a = b) := by by_cases h : a = b <;> simp [h]
theorem int_bne (a b : Int) : (a != b) = !decide (a = b) := by by_cases h : a = b <;> simp [bne, h]
/-! ### texts -/
theorem data_len (s : ByteArray) : s.data.toList.length = s.size := by rw [Array.length_toList]; rfl
theorem toList_data (s : ByteArray) : s.toList = s.data.toList := by
  have h : ∀ (n i : Nat) (r : List UInt8), s.size - i = n → ByteArray.toList.loop s i r = r.reverse ++ s.data.toList.drop i := by
    intro n
    induction n with
    | zero =>
      intro i r h
      unfold ByteArray.toList.loop
      rw [if_neg (by omega)]
      have : s.data.toList.length ≤ i := by rw [data_len]; omega
      simp [List.drop_eq_nil_of_le this]
    | succ n ih =>
      intro i r h
      unfold ByteArray.toList.loop
      rw [if_pos (by omega), ih (i + 1) _ (by omega)]
      have hi : i < s.data.toList.length := by rw [data_len]; omega
      rw [List.drop_eq_getElem_cons hi]
      have : s.get! i = s.data.toList[i] := by
        have hi' : i < s.data.size := by simpa using hi
        rw [ByteArray.get!, Array.getElem!_eq_getD]
        simp only [Array.getD, hi', dite_true]
        rfl
      simp [this]
  simpa [ByteArray.toList] using h s.size 0 [] (by omega)
theorem text_ext {a b : ByteArray} (h : a.data.toList = b.data.toList) : a = b := by
  obtain ⟨⟨a⟩⟩ := a; obtain ⟨⟨b⟩⟩ := b; simpa using h
theorem text_eq (a b : ByteArray) : (a.toList == b.toList) = decide (a = b) := by
  rw [toList_data, toList_data]
  by_cases h : a = b
  · subst h; simp
  · have : ¬ a.data.toList = b.data.toList := fun e => h (text_ext e)
    rw [decide_eq_false h]; exact beq_eq_false_iff_ne.mpr this
theorem text_eq' (a b : ByteArray) : (a.toList = b.toList) = (a = b) := by
  rw [toList_data, toList_data]
  exact propext ⟨text_ext, fun h => by rw [h]⟩
/-! ### loops over lists -/
theorem drop_cons {α : Type} {l : List α} {k : Nat} {x : α} {t : List α} (h : l.drop k = x :: t) (z : α) : k < l.length ∧ l.getD k z = x ∧ l.drop (k + 1) = t := by
  have hk : k < l.length := by
    rcases Nat.lt_or_ge k l.length with h' | h'
    · exact h'
    · rw [List.drop_eq_nil_of_le h'] at h; cases h
  rw [List.drop_eq_getElem_cons hk] at h
  obtain ⟨h1, h2⟩ := List.cons.inj h
  exact ⟨hk, by simp [List.getD, hk, h1], h2⟩
/-- a loop that goes along a list -/
theorem along {α S T : Type} (l : List α) (L : Nat → Nat → S → T) (G : List α → S → T) (hnil : ∀ j s, L (j + 1) l.length s = G [] s)
    (hcons : ∀ j k x t s, l.drop k = x :: t → k < l.length → (∀ s, L j (k + 1) s = G t s) → L (j + 1) k s = G (x :: t) s) :
    ∀ (t : List α) (j k : Nat) (s : S), l.drop k = t → k ≤ l.length → t.length < j → L j k s = G t s
  | [], j + 1, k, s, hd, hk, _ => by
    have : k = l.length := by
      rcases Nat.lt_or_ge k l.length with h' | h'
      · rw [List.drop_eq_getElem_cons h'] at hd; cases hd
      · omega
    subst this; exact hnil j s
  | x :: t, j + 1, k, s, hd, hk, hj => by
    have h := drop_cons hd x
    exact hcons j k x t s hd h.1 fun s => along l L G hnil hcons t j (k + 1) s h.2.2 (by omega) (by simp at hj; omega)
theorem along0 {α S T : Type} (l : List α) (L : Nat → Nat → S → T) (G : List α → S → T) {j : Nat} (hj : l.length < j) (s : S) (hnil : ∀ j s, L (j + 1) l.length s = G [] s)
    (hcons : ∀ j k x t s, l.drop k = x :: t → k < l.length → (∀ s, L j (k + 1) s = G t s) → L (j + 1) k s = G (x :: t) s) : L j 0 s = G l s :=
  along l L G hnil hcons l j 0 s rfl (by omega) hj
theorem set_take {α : Type} {s : List α} {k : Nat} {x : α} (h : k < s.length) (t : List α) : (s.set k x).take (k + 1) ++ t = s.take k ++ x :: t := by
  induction s generalizing k with
  | nil => simp at h
  | cons a s ih =>
    cases k with
    | zero => simp
    | succ k => simp at h; simp [ih h]
/-- a list is written anew, place by place -/
theorem copy_loop {α β : Type} (l : List α) (f : α → β) (L : Nat → Nat → List β → Option (List β)) (hexit : ∀ j s, L (j + 1) l.length s = some s)
    (hstep : ∀ j k s (h : k < l.length), s.length = l.length → L (j + 1) k s = L j (k + 1) (s.set k (f l[k]))) : ∀ (t : List α) (j k : Nat) (s : List β), l.drop k = t → k ≤ l.length → t.length < j → s.length = l.length → L j k s = some (s.take k ++ t.map f)
  | [], j + 1, k, s, hd, hk, _, hs => by
    have : k = l.length := by
      rcases Nat.lt_or_ge k l.length with h' | h'
      · rw [List.drop_eq_getElem_cons h'] at hd; cases hd
      · omega
    subst this
    rw [hexit, List.take_of_length_le (by omega)]; simp
  | x :: t, j + 1, k, s, hd, hk, hj, hs => by
    obtain ⟨h1, h2, h3⟩ := drop_cons hd x
    rw [hstep j k s h1 hs, copy_loop l f L hexit hstep t j (k + 1) _ h3 (by omega) (by simp at hj; omega) (by simpa using hs)]
    have hx : l[k] = x := by simpa [List.getD, h1] using h2
    rw [set_take (by omega), hx]; rfl
theorem copy_loop0 {α β : Type} (l : List α) (f : α → β) (L : Nat → Nat → List β → Option (List β)) {j : Nat} {s : List β} (hj : l.length < j) (hs : s.length = l.length) (hexit : ∀ j s, L (j + 1) l.length s = some s)
    (hstep : ∀ j k s (h : k < l.length), s.length = l.length → L (j + 1) k s = L j (k + 1) (s.set k (f l[k]))) : L j 0 s = some (l.map f) := by
  rw [copy_loop l f L hexit hstep l j 0 s rfl (by omega) hj hs]; simp
theorem bt_at {s : ByteArray} {k : Nat} (h : k < s.size) : bt s (k : Int) = ((s.data.toList[k]'(by rw [data_len]; exact h)).toNat : Int) := by
  simp only [bt, Int.toNat_natCast, h, dite_true]; rfl
theorem bt_drop {s : ByteArray} {k : Nat} {x : UInt8} {t : List UInt8} (h : s.data.toList.drop k = x :: t) : k < s.size ∧ bt s (k : Int) = (x.toNat : Int) := by
  obtain ⟨h1, h2, _⟩ := drop_cons h x
  have h3 : k < s.size := by rw [← data_len]; exact h1
  refine ⟨h3, ?_⟩
  rw [bt_at h3]
  rw [getD_at h1] at h2; rw [h2]
/-- a loop along a text -/
theorem alongT {S T : Type} (s : ByteArray) (L : Nat → Nat → S → T) (G : List UInt8 → S → T) (hnil : ∀ j st, L (j + 1) s.size st = G [] st)
    (hcons : ∀ j k x t st, s.data.toList.drop k = x :: t → k < s.size → bt s (k : Int) = (x.toNat : Int) → (∀ st, L j (k + 1) st = G t st) → L (j + 1) k st = G (x :: t) st) {j : Nat} (hj : s.size < j) (st : S) : L j 0 st = G s.data.toList st := by
  refine along0 s.data.toList L G (by rw [data_len]; exact hj) st (fun j st => by rw [data_len]; exact hnil j st) fun j k x t st hd hk ih => ?_
  obtain ⟨h1, h2⟩ := bt_drop hd
  exact hcons j k x t st hd h1 h2 ih
/-! ### sizes -/
def szR (c : Nat) (l : Int) : Int := if l < c then -1 else l - c
def big : Int := 1152921504606846976
theorem sz_str {r : Int → Option Int} {l : Int} {m c : Nat} (h0 : 0 ≤ l) (h1 : l ≤ big) (hm : (m : Int) ≤ big) (h : ∀ l', 0 ≤ l' → l' ≤ big → r l' = some (szR c l')) :
    (let v : Int := IntKind.wrap .i64 (l - (m : Int)); bif decide (v < (0 : Int)) then some (-1 : Int) else r v) = some (szR (m + c) l) := by
  simp only [big] at *
  rw [wrap64 (by omega) (by omega)]
  by_cases hl : l - (m : Int) < 0
  · rw [decide_eq_true hl, cond_true, szR, if_pos (by omega)]
  · rw [decide_eq_false hl, cond_false, h _ (by omega) (by omega)]
    simp only [szR]
    congr 1
    split <;> split <;> omega
theorem sz_call {r : Int → Option Int} {f : Option Int} {l : Int} {m c : Nat} (h0 : 0 ≤ l) (h1 : l ≤ big) (hf : f = some (szR m l)) (h : ∀ l', 0 ≤ l' → l' ≤ big → r l' = some (szR c l')) :
    (f.bind fun v => bif decide (v < (0 : Int)) then some (-1 : Int) else r v) = some (szR (m + c) l) := by
  rw [hf, Option.bind_some]
  by_cases hl : l < m
  · have : szR m l = -1 := if_pos hl
    rw [this, decide_eq_true (by omega), cond_true, szR, if_pos (by omega)]
  · have : szR m l = l - m := if_neg hl
    rw [this, decide_eq_false (by omega), cond_false, h _ (by omega) (by omega)]
    simp only [szR]
    congr 1
    split <;> split <;> omega
theorem sz_end {l : Int} (h0 : 0 ≤ l) : some l = some (szR 0 l) := by simp only [szR]; rw [if_neg (by omega)]; simp
theorem sz_loop {α : Type} (l : List α) (c : α → Nat) (L : Nat → Nat → Int → Option Int) (hexit : ∀ j s, L (j + 1) l.length s = some s)
    (hstep : ∀ j k s (h : k < l.length), 0 ≤ s → s ≤ big → L (j + 1) k s = if s < (c l[k] : Int) then some (-1) else L j (k + 1) (s - (c l[k] : Int))) :
    ∀ (t : List α) (j k : Nat) (s : Int), l.drop k = t → k ≤ l.length → t.length < j → 0 ≤ s → s ≤ big → L j k s = some (szR (t.map c).sum s)
  | [], j + 1, k, s, hd, hk, _, h0, h1 => by
    have : k = l.length := by
      rcases Nat.lt_or_ge k l.length with h' | h'
      · rw [List.drop_eq_getElem_cons h'] at hd; cases hd
      · omega
    subst this
    rw [hexit]; exact sz_end h0
  | x :: t, j + 1, k, s, hd, hk, hj, h0, h1 => by
    obtain ⟨h2, h3, h4⟩ := drop_cons hd x
    have hx : l[k] = x := by simpa [List.getD, h2] using h3
    rw [hstep j k s h2 h0 h1, hx]
    simp only [List.map_cons, List.sum_cons]
    split
    · rw [szR, if_pos (by omega)]
    · rw [sz_loop l c L hexit hstep t j (k + 1) _ h4 (by omega) (by simp at hj; omega) (by omega) (by omega)]
      simp only [szR]
      congr 1
      split <;> split <;> omega
theorem le_sum {α : Type} {f : α → Nat} : ∀ {l : List α} {x : α}, x ∈ l → f x ≤ (l.map f).sum
  | a :: l, x, h => by
    simp only [List.map_cons, List.sum_cons]
    rcases List.mem_cons.mp h with rfl | h
    · omega
    · have := le_sum (f := f) h; omega
theorem szR_step {c : Nat} {s : Int} (R : Int → Option Int) (b : Option Int) (h0 : 0 ≤ s) : (bif decide (szR c s < 0) then b else R (szR c s)) = if s < (c : Int) then b else R (s - (c : Int)) := by
  by_cases h : s < (c : Int)
  · have : szR c s = -1 := if_pos h
    rw [this, if_pos h]; rfl
  · have : szR c s = s - c := if_neg h
    rw [this, if_neg h, decide_eq_false (by omega)]; rfl
theorem eq_step {α : Type} [DecidableEq α] (x y : α) (R : Option Bool) : (bif !decide (x = y) then some false else R) = if x = y then R else some false := by
  by_cases h : x = y <;> simp [h]
theorem eq_step2 (x y : Int) (R : Option Bool) : (bif x != y then some false else R) = if x = y then R else some false := by
  by_cases h : x = y
  · subst h; simp
  · rw [if_neg h, show (x != y) = true by simpa using h]; rfl
theorem eq_step3 (x y : Bool) (R : Option Bool) : (bif !(x == y) then some false else R) = if x = y then R else some false := by
  cases x <;> cases y <;> rfl
theorem eq_last {p : Prop} [Decidable p] : (if p then some true else some false) = some (decide p) := by by_cases h : p <;> simp [h]
theorem eq_and {p q : Prop} [Decidable p] [Decidable q] : (if p then some (decide q) else some false) = some (decide (p ∧ q)) := by by_cases h : p <;> simp [h]
theorem str_step {c : Nat} {s : Int} (a b : Option Int) : (bif decide (s - (c : Int) < 0) then a else b) = if s < (c : Int) then a else b := by
  by_cases h : s < (c : Int)
  · rw [if_pos h, decide_eq_true (by omega)]; rfl
  · rw [if_neg h, decide_eq_false (by omega)]; rfl
theorem eq_end : ∀ b : Bool, (bif !b then some false else some true) = some b := by intro b; cases b <;> rfl
theorem bif_ite {α : Type} {p : Prop} [Decidable p] {q : Prop} [Decidable q] (h : p ↔ q) (a b : α) : (bif decide p then a else b) = if q then a else b := by
  by_cases hp : p <;> simp [hp, h.mp, ← h]
/-! ### lists compared -/
theorem eq_loop {α : Type} [DecidableEq α] (l m : List α) (hlm : l.length = m.length) (L : Nat → Nat → Option Bool) (hexit : ∀ j, L (j + 1) l.length = some true)
    (hstep : ∀ j k (h : k < l.length) (h' : k < m.length), L (j + 1) k = if l[k] = m[k] then L j (k + 1) else some false) :
    ∀ (t : List α) (j k : Nat), l.drop k = t → k ≤ l.length → t.length < j → L j k = some (decide (t = m.drop k))
  | [], j + 1, k, hd, hk, _ => by
    have : k = l.length := by
      rcases Nat.lt_or_ge k l.length with h' | h'
      · rw [List.drop_eq_getElem_cons h'] at hd; cases hd
      · omega
    subst this
    rw [hexit, List.drop_eq_nil_of_le (by omega)]; simp
  | x :: t, j + 1, k, hd, hk, hj => by
    obtain ⟨h2, h3, h4⟩ := drop_cons hd x
    have hx : l[k] = x := by simpa [List.getD, h2] using h3
    rw [hstep j k h2 (by omega), hx, List.drop_eq_getElem_cons (show k < m.length by omega)]
    split
    · rename_i e
      rw [eq_loop l m hlm L hexit hstep t j (k + 1) h4 (by omega) (by simp at hj; omega)]
      congr 1; exact decide_eq_decide.mpr ⟨fun h => by rw [e, h], fun h => (List.cons.inj h).2⟩
    · rename_i e
      congr 1; exact (decide_eq_false fun h => e (List.cons.inj h).1).symm
/-! ### searches -/
def idxFrom {α : Type} (p : α → Bool) : List α → Nat → Int
  | [], _ => -1
  | x :: t, k => if p x = true then (k : Int) else idxFrom p t (k + 1)
def idx {α : Type} (p : α → Bool) (l : List α) : Int := idxFrom p l 0
theorem find_loop {α : Type} (p : α → Bool) (l : List α) (L : Nat → Nat → Option Int) (hexit : ∀ j, L (j + 1) l.length = some (-1))
    (hstep : ∀ j k (h : k < l.length), L (j + 1) k = if p l[k] = true then some (k : Int) else L j (k + 1)) :
    ∀ (t : List α) (j k : Nat), l.drop k = t → k ≤ l.length → t.length < j → L j k = some (idxFrom p t k)
  | [], j + 1, k, hd, hk, _ => by
    have : k = l.length := by
      rcases Nat.lt_or_ge k l.length with h' | h'
      · rw [List.drop_eq_getElem_cons h'] at hd; cases hd
      · omega
    subst this; rw [hexit]; rfl
  | x :: t, j + 1, k, hd, hk, hj => by
    obtain ⟨h2, h3, h4⟩ := drop_cons hd x
    have hx : l[k] = x := by simpa [List.getD, h2] using h3
    rw [hstep j k h2, hx, find_loop p l L hexit hstep t j (k + 1) h4 (by omega) (by simp at hj; omega)]
    simp only [idxFrom]; split <;> rfl
theorem all_loop {α : Type} (p : α → Bool) (l : List α) (L : Nat → Nat → Option Bool) (r : Option Bool) (hexit : ∀ j, L (j + 1) l.length = r)
    (hstep : ∀ j k (h : k < l.length), L (j + 1) k = if p l[k] = true then L j (k + 1) else some false) :
    ∀ (t : List α) (j k : Nat), l.drop k = t → k ≤ l.length → t.length < j → L j k = if t.all p = true then r else some false
  | [], j + 1, k, hd, hk, _ => by
    have : k = l.length := by
      rcases Nat.lt_or_ge k l.length with h' | h'
      · rw [List.drop_eq_getElem_cons h'] at hd; cases hd
      · omega
    subst this; rw [hexit]; rfl
  | x :: t, j + 1, k, hd, hk, hj => by
    obtain ⟨h2, h3, h4⟩ := drop_cons hd x
    have hx : l[k] = x := by simpa [List.getD, h2] using h3
    rw [hstep j k h2, hx, all_loop p l L r hexit hstep t j (k + 1) h4 (by omega) (by simp at hj; omega)]
    by_cases hp : p x = true <;> simp [hp]
theorem bif_step {b : Bool} {α : Type} (x y : α) : (bif !b then y else x) = if b = true then x else y := by cases b <;> rfl
theorem bif_step' {b : Bool} {α : Type} (x y : α) : (bif b then x else y) = if b = true then x else y := by cases b <;> rfl
theorem idx_bound {α : Type} (p : α → Bool) : ∀ (l : List α) (k : Nat), idxFrom p l k = -1 ∨ ((k : Int) ≤ idxFrom p l k ∧ idxFrom p l k < (k + l.length : Nat))
  | [], k => .inl rfl
  | x :: t, k => by
    simp only [idxFrom]
    split
    · right; simp only [List.length_cons]; omega
    · rcases idx_bound p t (k + 1) with h | h
      · exact .inl h
      · right; simp only [List.length_cons]; omega
theorem idx_lt {α : Type} (p : α → Bool) (l : List α) : -1 ≤ idx p l ∧ idx p l < (l.length : Int) := by
  rcases idx_bound p l 0 with h | h
  · unfold idx; rw [h]; omega
  · unfold idx; omega
def allFrom {α : Type} (p : α → Nat → Bool) : List α → Nat → Bool
  | [], _ => true
  | x :: t, k => p x k && allFrom p t (k + 1)
theorem allFrom_loop {α : Type} (p : α → Nat → Bool) (l : List α) (L : Nat → Nat → Option Bool) (r : Option Bool) (hexit : ∀ j, L (j + 1) l.length = r)
    (hstep : ∀ j k (h : k < l.length), L (j + 1) k = if p l[k] k = true then L j (k + 1) else some false) :
    ∀ (t : List α) (j k : Nat), l.drop k = t → k ≤ l.length → t.length < j → L j k = if allFrom p t k = true then r else some false
  | [], j + 1, k, hd, hk, _ => by
    have : k = l.length := by
      rcases Nat.lt_or_ge k l.length with h' | h'
      · rw [List.drop_eq_getElem_cons h'] at hd; cases hd
      · omega
    subst this; rw [hexit]; rfl
  | x :: t, j + 1, k, hd, hk, hj => by
    obtain ⟨h2, h3, h4⟩ := drop_cons hd x
    have hx : l[k] = x := by simpa [List.getD, h2] using h3
    rw [hstep j k h2, hx, allFrom_loop p l L r hexit hstep t j (k + 1) h4 (by omega) (by simp at hj; omega)]
    by_cases hp : p x k = true <;> simp [hp, allFrom]
def runs {α S : Type} (f : α → S → Option S) : List α → S → Option S
  | [], s => some s
  | x :: t, s => (f x s).bind (runs f t)
def after {S T : Type} (o : Option S) (X : T) (R : S → T) : T := match o with
  | some s => R s
  | none => X
theorem run_loop {α S T : Type} (l : List α) (f : α → S → Option S) (L : Nat → Nat → S → T) (R : S → T) (X : T) (Inv : S → Prop) (hinv : ∀ x ∈ l, ∀ s s', Inv s → f x s = some s' → Inv s')
    (hexit : ∀ j s, Inv s → L (j + 1) l.length s = R s) (hstep : ∀ j k s (h : k < l.length), Inv s → L (j + 1) k s = after (f l[k] s) X fun s' => L j (k + 1) s') :
    ∀ (t : List α) (j k : Nat) (s : S), l.drop k = t → k ≤ l.length → t.length < j → Inv s → L j k s = after (runs f t s) X R
  | [], j + 1, k, s, hd, hk, _, hs => by
    have : k = l.length := by
      rcases Nat.lt_or_ge k l.length with h' | h'
      · rw [List.drop_eq_getElem_cons h'] at hd; cases hd
      · omega
    subst this; rw [hexit _ _ hs]; rfl
  | x :: t, j + 1, k, s, hd, hk, hj, hs => by
    obtain ⟨h2, h3, h4⟩ := drop_cons hd x
    have hx : l[k] = x := by simpa [List.getD, h2] using h3
    rw [hstep j k s h2 hs, hx]
    simp only [runs]
    cases hf : f x s with
    | none => rfl
    | some s' => exact run_loop l f L R X Inv hinv hexit hstep t j (k + 1) s' h4 (by omega) (by simp at hj; omega) (hinv x (by rw [← hx]; exact List.getElem_mem h2) s s' hs hf)
theorem allFrom_loopQ {α : Type} (p : α → Nat → Bool) (Q : Nat → Prop) (l : List α) (L : Nat → Nat → Option Bool) (r : Option Bool) (hexit : ∀ j, L (j + 1) l.length = r)
    (hQ : ∀ k (h : k < l.length), Q k → p l[k] k = true → Q (k + 1)) (hstep : ∀ j k (h : k < l.length), Q k → L (j + 1) k = if p l[k] k = true then L j (k + 1) else some false) :
    ∀ (t : List α) (j k : Nat), l.drop k = t → k ≤ l.length → t.length < j → Q k → L j k = if allFrom p t k = true then r else some false
  | [], j + 1, k, hd, hk, _, _ => by
    have : k = l.length := by
      rcases Nat.lt_or_ge k l.length with h' | h'
      · rw [List.drop_eq_getElem_cons h'] at hd; cases hd
      · omega
    subst this; rw [hexit]; rfl
  | x :: t, j + 1, k, hd, hk, hj, hq => by
    obtain ⟨h2, h3, h4⟩ := drop_cons hd x
    have hx : l[k] = x := by simpa [List.getD, h2] using h3
    rw [hstep j k h2 hq, hx]
    by_cases hp : p x k = true
    · rw [allFrom_loopQ p Q l L r hexit hQ hstep t j (k + 1) h4 (by omega) (by simp at hj; omega) (hQ k h2 hq (by rw [hx]; exact hp))]
      simp [hp, allFrom]
    · simp [hp, allFrom]
theorem allFrom_iff {α : Type} (p : α → Nat → Bool) : ∀ (l : List α) (k : Nat), allFrom p l k = true ↔ ∀ i (h : i < l.length), p l[i] (k + i) = true
  | [], k => by simp [allFrom]
  | x :: t, k => by
    simp only [allFrom, Bool.and_eq_true, allFrom_iff p t (k + 1)]
    constructor
    · rintro ⟨h1, h2⟩ i hi
      cases i with
      | zero => exact h1
      | succ i => have := h2 i (by simp at hi; omega); rwa [show k + 1 + i = k + (i + 1) by omega] at this
    · intro h
      refine ⟨h 0 (by simp), fun i hi => ?_⟩
      have := h (i + 1) (by simp; omega)
      rwa [show k + (i + 1) = k + 1 + i by omega] at this
theorem map_loop {α β : Type} (l : List α) (g : α → β) (L : Nat → Nat → List β → Option (List β)) (hexit : ∀ j s, L (j + 1) l.length s = some s)
    (hstep : ∀ j k s (h : k < l.length), s.length = k → L (j + 1) k s = L j (k + 1) (s ++ [g l[k]])) : ∀ (t : List α) (j k : Nat) (s : List β), l.drop k = t → k ≤ l.length → t.length < j → s.length = k → L j k s = some (s ++ t.map g)
  | [], j + 1, k, s, hd, hk, _, hs => by
    have : k = l.length := by
      rcases Nat.lt_or_ge k l.length with h' | h'
      · rw [List.drop_eq_getElem_cons h'] at hd; cases hd
      · omega
    subst this; rw [hexit]; simp
  | x :: t, j + 1, k, s, hd, hk, hj, hs => by
    obtain ⟨h2, h3, h4⟩ := drop_cons hd x
    have hx : l[k] = x := by simpa [List.getD, h2] using h3
    rw [hstep j k s h2 hs, hx, map_loop l g L hexit hstep t j (k + 1) _ h4 (by omega) (by simp at hj; omega) (by simp [hs])]
    simp
theorem le_big {l : Int} (h : l ≤ 1048576) : l ≤ big := by simp only [big]; omega
theorem law_sz {r : Int → Option Bool} {f : Option Int} {l : Int} {m : Nat} (hf : f = some (szR m l)) (h0 : 0 ≤ l) (h1 : l ≤ 1048576) (h : m ≤ 1048576 → ∀ l', 0 ≤ l' → l' ≤ 1048576 → r l' = some true) :
    (f.bind fun v => bif decide (v < (0 : Int)) then some true else r v) = some true := by
  rw [hf, Option.bind_some]
  by_cases hl : l < m
  · have : szR m l = -1 := if_pos hl
    rw [this]; rfl
  · have : szR m l = l - m := if_neg hl
    rw [this, decide_eq_false (by omega), cond_false]
    exact h (by omega) _ (by omega) (by omega)
theorem law_str {r : Option Bool} {m : Nat} (h : m ≤ 1048576 → r = some true) : (let v : Bool := decide ((1048576 : Int) < (m : Int)); bif v then some true else r) = some true := by
  by_cases hl : (1048576 : Int) < (m : Int)
  · simp [hl]
  · simp only [decide_eq_false hl, cond_false]; exact h (by omega)
/-! ### marks: what a law writes into a list, and finds there -/
def mkL {E : Type} (mk : Int → E → E) (mc : E → Nat) : Int → List E → List E
  | _, [] => []
  | k, x :: t => mk k x :: mkL mk mc (k + mc x) t
def mcL {E : Type} (mc : E → Nat) : List E → Nat
  | [] => 0
  | x :: t => mc x + mcL mc t
theorem mkL_len {E : Type} (mk : Int → E → E) (mc : E → Nat) : ∀ (l : List E) (k : Int), (mkL mk mc k l).length = l.length
  | [], k => rfl
  | x :: t, k => by simp [mkL, mkL_len mk mc t]
theorem mcL_le {E : Type} {mc : E → Nat} {b : Nat} : ∀ {l : List E}, (∀ x ∈ l, mc x ≤ b) → mcL mc l ≤ l.length * b
  | [], _ => by simp [mcL]
  | x :: t, h => by
    have h1 := h x (List.mem_cons_self ..)
    have h2 := mcL_le (l := t) fun y hy => h y (List.mem_cons_of_mem _ hy)
    simp only [mcL, List.length_cons, Nat.add_mul, Nat.one_mul]
    omega
theorem mcL_le' {E : Type} {mc : E → Nat} {b m c : Nat} {l : List E} (h : ∀ x ∈ l, mc x ≤ b) (hl : l.length ≤ m) (hc : m * b ≤ c) : mcL mc l ≤ c := Nat.le_trans (mcL_le h) (Nat.le_trans (Nat.mul_le_mul_right b hl) hc)
def markMax : Int := 9000000000000000000
theorem mark_loop {E : Type} (mk : Int → E → E) (mc : E → Nat) (P : E → Prop) (F : Nat → Int → Int → List E → Option (Int × (List E × Unit)))
    (hend : ∀ j k (l : List E), F (j + 1) k (l.length : Int) l = some (k, (l, ())))
    (hstep : ∀ j k i (l : List E) (hi : i < l.length), P l[i] → 0 ≤ k → k + mc l[i] ≤ markMax → l.length ≤ 1048577 → F (j + 1) k (i : Int) l = F j (k + mc l[i]) ((i + 1 : Nat) : Int) (l.set i (mk k l[i]))) :
    ∀ (t pre : List E) (j : Nat) (k : Int), t.length < j → (pre ++ t).length ≤ 1048577 → (∀ x ∈ t, P x) → 0 ≤ k → k + mcL mc t ≤ markMax → F j k (pre.length : Int) (pre ++ t) = some (k + mcL mc t, (pre ++ mkL mk mc k t, ()))
  | [], pre, j, k, hj, _, _, _, _ => by
    obtain ⟨j, rfl⟩ : ∃ i, j = i + 1 := ⟨j - 1, by simp at hj; omega⟩
    have := hend j k pre
    simpa [mkL, mcL] using this
  | x :: t, pre, j, k, hj, hl, hP, h0, h1 => by
    obtain ⟨j, rfl⟩ : ∃ i, j = i + 1 := ⟨j - 1, by simp at hj; omega⟩
    have hi : pre.length < (pre ++ x :: t).length := by simp
    have hx : (pre ++ x :: t)[pre.length] = x := by simp
    simp only [mcL] at h1
    have hs := hstep j k pre.length (pre ++ x :: t) hi (by rw [hx]; exact hP x (List.mem_cons_self ..)) h0 (by rw [hx]; omega) hl
    rw [hx] at hs
    have hset : (pre ++ x :: t).set pre.length (mk k x) = (pre ++ [mk k x]) ++ t := by simp
    rw [hs, hset]
    have ih := mark_loop mk mc P F hend hstep t (pre ++ [mk k x]) j (k + mc x) (by simpa using hj) (by simp at hl ⊢; omega) (fun y hy => hP y (List.mem_cons_of_mem _ hy)) (by omega) (by omega)
    rw [show (pre ++ [mk k x]).length = pre.length + 1 by simp] at ih
    rw [ih]
    simp only [mkL, mcL, List.append_assoc, List.singleton_append]
    congr 2
    omega
theorem held_loop {E : Type} (mk : Int → E → E) (mc : E → Nat) (P : E → Prop) (L : List E) (H : Nat → Int → Int → Option Int) (hL : L.length ≤ 1048577)
    (hend : ∀ j k, H (j + 1) k (L.length : Int) = some k)
    (hstep : ∀ j k i x (hi : i < L.length), P x → L[i] = mk k x → 0 ≤ k → k + mc x ≤ markMax → H (j + 1) k (i : Int) = H j (k + mc x) ((i + 1 : Nat) : Int)) :
    ∀ (t pre : List E) (j : Nat) (k : Int), L = pre ++ mkL mk mc k t → t.length < j → (∀ x ∈ t, P x) → 0 ≤ k → k + mcL mc t ≤ markMax → H j k (pre.length : Int) = some (k + mcL mc t)
  | [], pre, j, k, hp, hj, _, _, _ => by
    obtain ⟨j, rfl⟩ : ∃ i, j = i + 1 := ⟨j - 1, by simp at hj; omega⟩
    simp only [mkL, List.append_nil] at hp
    have := hend j k
    rw [hp] at this
    simpa [mcL] using this
  | x :: t, pre, j, k, hp, hj, hP, h0, h1 => by
    obtain ⟨j, rfl⟩ : ∃ i, j = i + 1 := ⟨j - 1, by simp at hj; omega⟩
    simp only [mkL] at hp
    simp only [mcL] at h1
    have hi : pre.length < L.length := by rw [hp]; simp
    have hx : L[pre.length] = mk k x := by simp [hp]
    have hs := hstep j k pre.length x hi (hP x (List.mem_cons_self ..)) hx h0 (by omega)
    rw [hs]
    have ih := held_loop mk mc P L H hL hend hstep t (pre ++ [mk k x]) j (k + mc x) (by rw [hp]; simp) (by simpa using hj) (fun y hy => hP y (List.mem_cons_of_mem _ hy)) (by omega) (by omega)
    rw [show (pre ++ [mk k x]).length = pre.length + 1 by simp] at ih
    rw [ih]
    simp only [mcL]
    congr 1
    omega
theorem wrapk {x : Int} (h0 : 0 ≤ x) (h1 : x ≤ 9223372036854775807) : IntKind.wrap .i64 x = x := wrap64 (by omega) h1
theorem setAt {α : Type} {l : List α} {i : Nat} {x z : α} (h : i < l.length) : (l.set i x).getD i z = x := by simp [List.getD, h]
abbrev T_Val := Int × (Int × (ByteArray))
instance i_Val : DecidableEq T_Val := @instDecidableEqProd _ _ inferInstance (@instDecidableEqProd _ _ inferInstance (inferInstance))
def cost_Val (x : T_Val) : Nat := x.2.2.size + (0)
def sm_Val (k : Nat) (x : T_Val) : Prop := x.2.2.size ≤ k
theorem cost_sm_Val {k : Nat} {x : T_Val} (h : cost_Val x ≤ k) : sm_Val k x := by
  unfold cost_Val at h
  unfold sm_Val
  exact by omega
theorem toVal_ok : EV fun n => ∀ x : T_Val, sm_Val 1048576 x → laws_toVal n x.1 x.2.1 x.2.2 = some x := EV.true.up fun n h x hs => by
  unfold sm_Val at hs
  simp only [laws_toVal, Option.bind_some]
theorem szVal_ok : EV fun n => ∀ (x : T_Val) (l : Int), sm_Val 140737488355328 x → 0 ≤ l → l ≤ big → laws_szVal n x.1 x.2.1 x.2.2 l = some (szR (cost_Val x) l) := EV.true.up fun n h x l0 hs g0 g1 => by
  unfold sm_Val at hs
  rw [laws_szVal]
  unfold cost_Val
  exact sz_str (m := x.2.2.size) g0 g1 (by have := hs; simp only [big]; omega) fun l1 g2 g3 => sz_end g2
theorem eqVal_ok : EV fun n => ∀ (x y : T_Val), sm_Val 1048576 x → laws_eqVal n x.1 x.2.1 x.2.2 y.1 y.2.1 y.2.2 = some (decide (x = y)) := EV.true.up fun n h x y hs => by
  unfold sm_Val at hs
  simp only [laws_eqVal, Option.bind_some, text_eq]
  obtain ⟨x0 , x1 , x2⟩ := x
  obtain ⟨y0 , y1 , y2⟩ := y
  simp only [eq_step, eq_step2, eq_step3, eq_last, eq_and]
  exact congrArg some (decide_eq_decide.mpr (by simp only [Prod.mk.injEq]))
abbrev T_ValS := List T_Val
def cost_ValS (x : T_ValS) : Nat := x.length + (x.map (cost_Val)).sum
def sm_ValS (k : Nat) (l : T_ValS) : Prop := l.length ≤ k ∧ ∀ x ∈ l, sm_Val k x
theorem cost_sm_ValS {k : Nat} {l : T_ValS} (h : cost_ValS l ≤ k) : sm_ValS k l := by
  unfold cost_ValS at h
  unfold sm_ValS
  refine ⟨by omega, fun x hx => ?_⟩
  have := le_sum (f := cost_Val) hx
  exact cost_sm_Val (by omega)
theorem toValS_ok : EV fun n => ∀ l : T_ValS, sm_ValS 1048576 l → laws_toValS n l = some l := (toVal_ok.and (EV.gt 1048576)).up fun n h l hl => by
  have hlen := hl.1
  have hroom : (decide ((l.length : Int) = (l.length : Int) ∧ 0 ≤ (l.length : Int)) && room (l.length : Int).toNat 32) = true := by simp [room]; omega
  rw [laws_toValS, hroom]
  simp only [cond_true]
  refine (copy_loop0 (j := n) l id (fun j k s => laws_toValS_L1 n j l (k : Int) s) (by omega) (by simp) (fun j s => by simp only [laws_toValS_L1, lt_cast, Nat.lt_irrefl, decide_false, cond_false]) (fun j k s hk hs => ?_)).trans (by simp)
  have hks : k < s.length := by omega
  have e : laws_toVal n l[k].1 l[k].2.1 l[k].2.2 = some l[k] := h.1 (l[k]) (hl.2 _ (List.getElem_mem hk))
  simp only [laws_toValS_L1, lt_cast, decide_eq_true hk, inR_true hk, Int.toNat_natCast, getD_at hk, cond_true, wrap_succ hk (by omega), inR_true hks, Option.bind_some, id, e]
theorem szValS_ok : EV fun n => ∀ (l : T_ValS) (s : Int), sm_ValS 140737488355328 l → 0 ≤ s → s ≤ big → laws_szValS n l s = some (szR (cost_ValS l) s) := (szVal_ok.and (EV.gt 140737488355328)).up fun n h l s hl g0 g1 => by
  have hlen := hl.1
  rw [laws_szValS]
  unfold cost_ValS
  refine sz_str (r := fun s => laws_szValS_L1 n n l s (0 : Int)) (m := l.length) g0 g1 (by simp only [big]; omega) fun s g0 g1 => ?_
  refine sz_loop l _ (fun j k s => laws_szValS_L1 n j l s (k : Int)) (fun j s => by simp only [laws_szValS_L1, lt_cast, Nat.lt_irrefl, decide_false, cond_false]) (fun j k s hk h0 h1 => ?_) l n 0 s rfl (by omega) (by omega) g0 g1
  have e : laws_szVal n l[k].1 l[k].2.1 l[k].2.2 s = some (szR (cost_Val l[k]) s) := h.1 (l[k]) s (hl.2 _ (List.getElem_mem hk)) h0 h1
  simp only [laws_szValS_L1, lt_cast, decide_eq_true hk, inR_true hk, Int.toNat_natCast, getD_at hk, cond_true, wrap_succ hk (by omega), e, Option.bind_some]
  exact szR_step (fun s => laws_szValS_L1 n j l s ((k + 1 : Nat) : Int)) _ h0
theorem eqValS_ok : EV fun n => ∀ (l m : T_ValS), sm_ValS 1048576 l → laws_eqValS n l m = some (decide (l = m)) := (eqVal_ok.and (EV.gt 1048576)).up fun n h l m hl => by
  have hlen := hl.1
  rw [laws_eqValS]
  by_cases hlm : l.length = m.length
  · have : ((l.length : Int) != (m.length : Int)) = false := by simp [hlm]
    simp only [this, cond_false]
    refine (eq_loop l m hlm (fun j k => laws_eqValS_L1 n j l m (k : Int)) (fun j => by simp only [laws_eqValS_L1, lt_cast, Nat.lt_irrefl, decide_false, cond_false]) (fun j k hk hk2 => ?_) l n 0 rfl (by omega) (by omega)).trans (by simp)
    have e : laws_eqVal n l[k].1 l[k].2.1 l[k].2.2 m[k].1 m[k].2.1 m[k].2.2 = some (decide (l[k] = m[k])) := h.1 (l[k]) (m[k]) (hl.2 _ (List.getElem_mem hk))
    simp only [laws_eqValS_L1, lt_cast, decide_eq_true hk, inR_true hk, Int.toNat_natCast, getD_at hk, cond_true, wrap_succ hk (by omega), getD_at hk2, inR_true hk2, e, Option.bind_some]
    exact eq_step (l[k]) (m[k]) _
  · have : ((l.length : Int) != (m.length : Int)) = true := by simp; omega
    simp only [this, cond_true]
    congr 1; exact (decide_eq_false fun h => hlm (by rw [h])).symm
abbrev T_Col := ByteArray × (Int × (Bool × (Bool × (T_Val))))
instance i_Col : DecidableEq T_Col := @instDecidableEqProd _ _ inferInstance (@instDecidableEqProd _ _ inferInstance (@instDecidableEqProd _ _ inferInstance (@instDecidableEqProd _ _ inferInstance (inferInstance))))
def cost_Col (x : T_Col) : Nat := x.1.size + (cost_Val x.2.2.2.2 + (0))
def sm_Col (k : Nat) (x : T_Col) : Prop := x.1.size ≤ k ∧ sm_Val k x.2.2.2.2
theorem cost_sm_Col {k : Nat} {x : T_Col} (h : cost_Col x ≤ k) : sm_Col k x := by
  unfold cost_Col at h
  unfold sm_Col
  exact ⟨by omega, cost_sm_Val (by omega)⟩
theorem toCol_ok : EV fun n => ∀ x : T_Col, sm_Col 1048576 x → laws_toCol n x.1 x.2.1 x.2.2.1 x.2.2.2.1 x.2.2.2.2.1 x.2.2.2.2.2.1 x.2.2.2.2.2.2 = some x := (toVal_ok.and EV.true).up fun n h x hs => by
  unfold sm_Col at hs
  have e0 : laws_toVal n x.2.2.2.2.1 x.2.2.2.2.2.1 x.2.2.2.2.2.2 = some x.2.2.2.2 := h.1 x.2.2.2.2 (hs.2)
  simp only [laws_toCol, e0, Option.bind_some]
theorem szCol_ok : EV fun n => ∀ (x : T_Col) (l : Int), sm_Col 140737488355328 x → 0 ≤ l → l ≤ big → laws_szCol n x.1 x.2.1 x.2.2.1 x.2.2.2.1 x.2.2.2.2.1 x.2.2.2.2.2.1 x.2.2.2.2.2.2 l = some (szR (cost_Col x) l) := (szVal_ok.and EV.true).up fun n h x l0 hs g0 g1 => by
  unfold sm_Col at hs
  rw [laws_szCol]
  unfold cost_Col
  exact sz_str (m := x.1.size) g0 g1 (by have := hs.1; simp only [big]; omega) fun l1 g2 g3 => sz_call g2 g3 (h.1 x.2.2.2.2 l1 (hs.2) g2 g3) fun l2 g4 g5 => sz_end g4
theorem eqCol_ok : EV fun n => ∀ (x y : T_Col), sm_Col 1048576 x → laws_eqCol n x.1 x.2.1 x.2.2.1 x.2.2.2.1 x.2.2.2.2.1 x.2.2.2.2.2.1 x.2.2.2.2.2.2 y.1 y.2.1 y.2.2.1 y.2.2.2.1 y.2.2.2.2.1 y.2.2.2.2.2.1 y.2.2.2.2.2.2 = some (decide (x = y)) := (eqVal_ok.and EV.true).up fun n h x y hs => by
  unfold sm_Col at hs
  have e0 : laws_eqVal n x.2.2.2.2.1 x.2.2.2.2.2.1 x.2.2.2.2.2.2 y.2.2.2.2.1 y.2.2.2.2.2.1 y.2.2.2.2.2.2 = some (decide (x.2.2.2.2 = y.2.2.2.2)) := h.1 x.2.2.2.2 y.2.2.2.2 (hs.2)
  simp only [laws_eqCol, e0, Option.bind_some, text_eq]
  obtain ⟨x0 , x1 , x2 , x3 , x4⟩ := x
  obtain ⟨y0 , y1 , y2 , y3 , y4⟩ := y
  simp only [eq_step, eq_step2, eq_step3, eq_last, eq_and]
  exact congrArg some (decide_eq_decide.mpr (by simp only [Prod.mk.injEq]))
abbrev T_ColS := List T_Col
def cost_ColS (x : T_ColS) : Nat := x.length + (x.map (cost_Col)).sum
def sm_ColS (k : Nat) (l : T_ColS) : Prop := l.length ≤ k ∧ ∀ x ∈ l, sm_Col k x
theorem cost_sm_ColS {k : Nat} {l : T_ColS} (h : cost_ColS l ≤ k) : sm_ColS k l := by
  unfold cost_ColS at h
  unfold sm_ColS
  refine ⟨by omega, fun x hx => ?_⟩
  have := le_sum (f := cost_Col) hx
  exact cost_sm_Col (by omega)
theorem toColS_ok : EV fun n => ∀ l : T_ColS, sm_ColS 1048576 l → laws_toColS n l = some l := (toCol_ok.and (EV.gt 1048576)).up fun n h l hl => by
  have hlen := hl.1
  have hroom : (decide ((l.length : Int) = (l.length : Int) ∧ 0 ≤ (l.length : Int)) && room (l.length : Int).toNat 64) = true := by simp [room]; omega
  rw [laws_toColS, hroom]
  simp only [cond_true]
  refine (copy_loop0 (j := n) l id (fun j k s => laws_toColS_L1 n j l (k : Int) s) (by omega) (by simp) (fun j s => by simp only [laws_toColS_L1, lt_cast, Nat.lt_irrefl, decide_false, cond_false]) (fun j k s hk hs => ?_)).trans (by simp)
  have hks : k < s.length := by omega
  have e : laws_toCol n l[k].1 l[k].2.1 l[k].2.2.1 l[k].2.2.2.1 l[k].2.2.2.2.1 l[k].2.2.2.2.2.1 l[k].2.2.2.2.2.2 = some l[k] := h.1 (l[k]) (hl.2 _ (List.getElem_mem hk))
  simp only [laws_toColS_L1, lt_cast, decide_eq_true hk, inR_true hk, Int.toNat_natCast, getD_at hk, cond_true, wrap_succ hk (by omega), inR_true hks, Option.bind_some, id, e]
theorem szColS_ok : EV fun n => ∀ (l : T_ColS) (s : Int), sm_ColS 140737488355328 l → 0 ≤ s → s ≤ big → laws_szColS n l s = some (szR (cost_ColS l) s) := (szCol_ok.and (EV.gt 140737488355328)).up fun n h l s hl g0 g1 => by
  have hlen := hl.1
  rw [laws_szColS]
  unfold cost_ColS
  refine sz_str (r := fun s => laws_szColS_L1 n n l s (0 : Int)) (m := l.length) g0 g1 (by simp only [big]; omega) fun s g0 g1 => ?_
  refine sz_loop l _ (fun j k s => laws_szColS_L1 n j l s (k : Int)) (fun j s => by simp only [laws_szColS_L1, lt_cast, Nat.lt_irrefl, decide_false, cond_false]) (fun j k s hk h0 h1 => ?_) l n 0 s rfl (by omega) (by omega) g0 g1
  have e : laws_szCol n l[k].1 l[k].2.1 l[k].2.2.1 l[k].2.2.2.1 l[k].2.2.2.2.1 l[k].2.2.2.2.2.1 l[k].2.2.2.2.2.2 s = some (szR (cost_Col l[k]) s) := h.1 (l[k]) s (hl.2 _ (List.getElem_mem hk)) h0 h1
  simp only [laws_szColS_L1, lt_cast, decide_eq_true hk, inR_true hk, Int.toNat_natCast, getD_at hk, cond_true, wrap_succ hk (by omega), e, Option.bind_some]
  exact szR_step (fun s => laws_szColS_L1 n j l s ((k + 1 : Nat) : Int)) _ h0
theorem eqColS_ok : EV fun n => ∀ (l m : T_ColS), sm_ColS 1048576 l → laws_eqColS n l m = some (decide (l = m)) := (eqCol_ok.and (EV.gt 1048576)).up fun n h l m hl => by
  have hlen := hl.1
  rw [laws_eqColS]
  by_cases hlm : l.length = m.length
  · have : ((l.length : Int) != (m.length : Int)) = false := by simp [hlm]
    simp only [this, cond_false]
    refine (eq_loop l m hlm (fun j k => laws_eqColS_L1 n j l m (k : Int)) (fun j => by simp only [laws_eqColS_L1, lt_cast, Nat.lt_irrefl, decide_false, cond_false]) (fun j k hk hk2 => ?_) l n 0 rfl (by omega) (by omega)).trans (by simp)
    have e : laws_eqCol n l[k].1 l[k].2.1 l[k].2.2.1 l[k].2.2.2.1 l[k].2.2.2.2.1 l[k].2.2.2.2.2.1 l[k].2.2.2.2.2.2 m[k].1 m[k].2.1 m[k].2.2.1 m[k].2.2.2.1 m[k].2.2.2.2.1 m[k].2.2.2.2.2.1 m[k].2.2.2.2.2.2 = some (decide (l[k] = m[k])) := h.1 (l[k]) (m[k]) (hl.2 _ (List.getElem_mem hk))
    simp only [laws_eqColS_L1, lt_cast, decide_eq_true hk, inR_true hk, Int.toNat_natCast, getD_at hk, cond_true, wrap_succ hk (by omega), getD_at hk2, inR_true hk2, e, Option.bind_some]
    exact eq_step (l[k]) (m[k]) _
  · have : ((l.length : Int) != (m.length : Int)) = true := by simp; omega
    simp only [this, cond_true]
    congr 1; exact (decide_eq_false fun h => hlm (by rw [h])).symm
abbrev T_StringS := List ByteArray
def cost_StringS (x : T_StringS) : Nat := x.length + (x.map (fun (x : ByteArray) => x.size)).sum
def sm_StringS (k : Nat) (l : T_StringS) : Prop := l.length ≤ k ∧ ∀ x ∈ l, x.size ≤ k
theorem sm_up {l : T_StringS} (h : sm_StringS 1048576 l) : sm_StringS 1048577 l := ⟨Nat.le_trans h.1 (by decide), fun x hx => Nat.le_trans (h.2 x hx) (by decide)⟩
theorem cost_sm_StringS {k : Nat} {l : T_StringS} (h : cost_StringS l ≤ k) : sm_StringS k l := by
  unfold cost_StringS at h
  unfold sm_StringS
  refine ⟨by omega, fun x hx => ?_⟩
  have := le_sum (f := fun (x : ByteArray) => x.size) hx
  exact by omega
theorem toStringS_ok : EV fun n => ∀ l : T_StringS, sm_StringS 1048576 l → laws_toStringS n l = some l := (EV.gt 1048576).up fun n h l hl => by
  have hlen := hl.1
  have hroom : (decide ((l.length : Int) = (l.length : Int) ∧ 0 ≤ (l.length : Int)) && room (l.length : Int).toNat 16) = true := by simp [room]; omega
  rw [laws_toStringS, hroom]
  simp only [cond_true]
  refine (copy_loop0 (j := n) l id (fun j k s => laws_toStringS_L1 n j l (k : Int) s) (by omega) (by simp) (fun j s => by simp only [laws_toStringS_L1, lt_cast, Nat.lt_irrefl, decide_false, cond_false]) (fun j k s hk hs => ?_)).trans (by simp)
  have hks : k < s.length := by omega
  simp only [laws_toStringS_L1, lt_cast, decide_eq_true hk, inR_true hk, Int.toNat_natCast, getD_at hk, cond_true, wrap_succ hk (by omega), inR_true hks, Option.bind_some, id]
theorem szStringS_ok : EV fun n => ∀ (l : T_StringS) (s : Int), sm_StringS 140737488355328 l → 0 ≤ s → s ≤ big → laws_szStringS n l s = some (szR (cost_StringS l) s) := (EV.gt 140737488355328).up fun n h l s hl g0 g1 => by
  have hlen := hl.1
  rw [laws_szStringS]
  unfold cost_StringS
  refine sz_str (r := fun s => laws_szStringS_L1 n n l s (0 : Int)) (m := l.length) g0 g1 (by simp only [big]; omega) fun s g0 g1 => ?_
  refine sz_loop l _ (fun j k s => laws_szStringS_L1 n j l s (k : Int)) (fun j s => by simp only [laws_szStringS_L1, lt_cast, Nat.lt_irrefl, decide_false, cond_false]) (fun j k s hk h0 h1 => ?_) l n 0 s rfl (by omega) (by omega) g0 g1
  have hs := hl.2 _ (List.getElem_mem hk)
  simp only [big] at h0 h1
  simp only [laws_szStringS_L1, lt_cast, decide_eq_true hk, inR_true hk, Int.toNat_natCast, getD_at hk, cond_true, wrap_succ hk (by omega)]
  rw [wrap64 (by omega) (by omega)]
  exact str_step _ _
theorem eqStringS_okK : EV fun n => ∀ (l m : T_StringS), sm_StringS 1048577 l → laws_eqStringS n l m = some (decide (l = m)) := (EV.gt 1048577).up fun n h l m hl => by
  have hlen := hl.1
  rw [laws_eqStringS]
  by_cases hlm : l.length = m.length
  · have : ((l.length : Int) != (m.length : Int)) = false := by simp [hlm]
    simp only [this, cond_false]
    refine (eq_loop l m hlm (fun j k => laws_eqStringS_L1 n j l m (k : Int)) (fun j => by simp only [laws_eqStringS_L1, lt_cast, Nat.lt_irrefl, decide_false, cond_false]) (fun j k hk hk2 => ?_) l n 0 rfl (by omega) (by omega)).trans (by simp)
    simp only [laws_eqStringS_L1, lt_cast, decide_eq_true hk, inR_true hk, Int.toNat_natCast, getD_at hk, cond_true, wrap_succ hk (by omega), getD_at hk2, inR_true hk2, text_eq]
    exact eq_step (l[k]) (m[k]) _
  · have : ((l.length : Int) != (m.length : Int)) = true := by simp; omega
    simp only [this, cond_true]
    congr 1; exact (decide_eq_false fun h => hlm (by rw [h])).symm
theorem eqStringS_ok : EV fun n => ∀ (l m : T_StringS), sm_StringS 1048576 l → laws_eqStringS n l m = some (decide (l = m)) := eqStringS_okK.mono fun n h l m hs => h l m (sm_up hs)
abbrev T_Table := ByteArray × (T_ColS × (T_StringS))
instance i_Table : DecidableEq T_Table := @instDecidableEqProd _ _ inferInstance (@instDecidableEqProd _ _ inferInstance (inferInstance))
def cost_Table (x : T_Table) : Nat := x.1.size + (cost_ColS x.2.1 + (cost_StringS x.2.2 + (0)))
def sm_Table (k : Nat) (x : T_Table) : Prop := x.1.size ≤ k ∧ sm_ColS k x.2.1 ∧ sm_StringS k x.2.2
theorem cost_sm_Table {k : Nat} {x : T_Table} (h : cost_Table x ≤ k) : sm_Table k x := by
  unfold cost_Table at h
  unfold sm_Table
  exact ⟨by omega, cost_sm_ColS (by omega), cost_sm_StringS (by omega)⟩
theorem toTable_ok : EV fun n => ∀ x : T_Table, sm_Table 1048576 x → laws_toTable n x.1 x.2.1 x.2.2 = some x := (toColS_ok.and (toStringS_ok.and EV.true)).up fun n h x hs => by
  unfold sm_Table at hs
  have e0 : laws_toColS n x.2.1 = some x.2.1 := h.1 x.2.1 (hs.2.1)
  have e1 : laws_toStringS n x.2.2 = some x.2.2 := h.2.1 x.2.2 (hs.2.2)
  simp only [laws_toTable, e0, e1, Option.bind_some]
theorem szTable_ok : EV fun n => ∀ (x : T_Table) (l : Int), sm_Table 140737488355328 x → 0 ≤ l → l ≤ big → laws_szTable n x.1 x.2.1 x.2.2 l = some (szR (cost_Table x) l) := (szColS_ok.and (szStringS_ok.and EV.true)).up fun n h x l0 hs g0 g1 => by
  unfold sm_Table at hs
  rw [laws_szTable]
  unfold cost_Table
  exact sz_str (m := x.1.size) g0 g1 (by have := hs.1; simp only [big]; omega) fun l1 g2 g3 => sz_call g2 g3 (h.1 x.2.1 l1 (hs.2.1) g2 g3) fun l2 g4 g5 => sz_call g4 g5 (h.2.1 x.2.2 l2 (hs.2.2) g4 g5) fun l3 g6 g7 => sz_end g6
theorem eqTable_ok : EV fun n => ∀ (x y : T_Table), sm_Table 1048576 x → laws_eqTable n x.1 x.2.1 x.2.2 y.1 y.2.1 y.2.2 = some (decide (x = y)) := (eqColS_ok.and (eqStringS_ok.and EV.true)).up fun n h x y hs => by
  unfold sm_Table at hs
  have e0 : laws_eqColS n x.2.1 y.2.1 = some (decide (x.2.1 = y.2.1)) := h.1 x.2.1 y.2.1 (hs.2.1)
  have e1 : laws_eqStringS n x.2.2 y.2.2 = some (decide (x.2.2 = y.2.2)) := h.2.1 x.2.2 y.2.2 (hs.2.2)
  simp only [laws_eqTable, e0, e1, Option.bind_some, text_eq]
  obtain ⟨x0 , x1 , x2⟩ := x
  obtain ⟨y0 , y1 , y2⟩ := y
  simp only [eq_step, eq_step2, eq_step3, eq_last, eq_and]
  exact congrArg some (decide_eq_decide.mpr (by simp only [Prod.mk.injEq]))
abbrev T_TableS := List T_Table
def cost_TableS (x : T_TableS) : Nat := x.length + (x.map (cost_Table)).sum
def sm_TableS (k : Nat) (l : T_TableS) : Prop := l.length ≤ k ∧ ∀ x ∈ l, sm_Table k x
theorem cost_sm_TableS {k : Nat} {l : T_TableS} (h : cost_TableS l ≤ k) : sm_TableS k l := by
  unfold cost_TableS at h
  unfold sm_TableS
  refine ⟨by omega, fun x hx => ?_⟩
  have := le_sum (f := cost_Table) hx
  exact cost_sm_Table (by omega)
theorem toTableS_ok : EV fun n => ∀ l : T_TableS, sm_TableS 1048576 l → laws_toTableS n l = some l := (toTable_ok.and (EV.gt 1048576)).up fun n h l hl => by
  have hlen := hl.1
  have hroom : (decide ((l.length : Int) = (l.length : Int) ∧ 0 ≤ (l.length : Int)) && room (l.length : Int).toNat 64) = true := by simp [room]; omega
  rw [laws_toTableS, hroom]
  simp only [cond_true]
  refine (copy_loop0 (j := n) l id (fun j k s => laws_toTableS_L1 n j l (k : Int) s) (by omega) (by simp) (fun j s => by simp only [laws_toTableS_L1, lt_cast, Nat.lt_irrefl, decide_false, cond_false]) (fun j k s hk hs => ?_)).trans (by simp)
  have hks : k < s.length := by omega
  have e : laws_toTable n l[k].1 l[k].2.1 l[k].2.2 = some l[k] := h.1 (l[k]) (hl.2 _ (List.getElem_mem hk))
  simp only [laws_toTableS_L1, lt_cast, decide_eq_true hk, inR_true hk, Int.toNat_natCast, getD_at hk, cond_true, wrap_succ hk (by omega), inR_true hks, Option.bind_some, id, e]
theorem szTableS_ok : EV fun n => ∀ (l : T_TableS) (s : Int), sm_TableS 140737488355328 l → 0 ≤ s → s ≤ big → laws_szTableS n l s = some (szR (cost_TableS l) s) := (szTable_ok.and (EV.gt 140737488355328)).up fun n h l s hl g0 g1 => by
  have hlen := hl.1
  rw [laws_szTableS]
  unfold cost_TableS
  refine sz_str (r := fun s => laws_szTableS_L1 n n l s (0 : Int)) (m := l.length) g0 g1 (by simp only [big]; omega) fun s g0 g1 => ?_
  refine sz_loop l _ (fun j k s => laws_szTableS_L1 n j l s (k : Int)) (fun j s => by simp only [laws_szTableS_L1, lt_cast, Nat.lt_irrefl, decide_false, cond_false]) (fun j k s hk h0 h1 => ?_) l n 0 s rfl (by omega) (by omega) g0 g1
  have e : laws_szTable n l[k].1 l[k].2.1 l[k].2.2 s = some (szR (cost_Table l[k]) s) := h.1 (l[k]) s (hl.2 _ (List.getElem_mem hk)) h0 h1
  simp only [laws_szTableS_L1, lt_cast, decide_eq_true hk, inR_true hk, Int.toNat_natCast, getD_at hk, cond_true, wrap_succ hk (by omega), e, Option.bind_some]
  exact szR_step (fun s => laws_szTableS_L1 n j l s ((k + 1 : Nat) : Int)) _ h0
theorem eqTableS_ok : EV fun n => ∀ (l m : T_TableS), sm_TableS 1048576 l → laws_eqTableS n l m = some (decide (l = m)) := (eqTable_ok.and (EV.gt 1048576)).up fun n h l m hl => by
  have hlen := hl.1
  rw [laws_eqTableS]
  by_cases hlm : l.length = m.length
  · have : ((l.length : Int) != (m.length : Int)) = false := by simp [hlm]
    simp only [this, cond_false]
    refine (eq_loop l m hlm (fun j k => laws_eqTableS_L1 n j l m (k : Int)) (fun j => by simp only [laws_eqTableS_L1, lt_cast, Nat.lt_irrefl, decide_false, cond_false]) (fun j k hk hk2 => ?_) l n 0 rfl (by omega) (by omega)).trans (by simp)
    have e : laws_eqTable n l[k].1 l[k].2.1 l[k].2.2 m[k].1 m[k].2.1 m[k].2.2 = some (decide (l[k] = m[k])) := h.1 (l[k]) (m[k]) (hl.2 _ (List.getElem_mem hk))
    simp only [laws_eqTableS_L1, lt_cast, decide_eq_true hk, inR_true hk, Int.toNat_natCast, getD_at hk, cond_true, wrap_succ hk (by omega), getD_at hk2, inR_true hk2, e, Option.bind_some]
    exact eq_step (l[k]) (m[k]) _
  · have : ((l.length : Int) != (m.length : Int)) = true := by simp; omega
    simp only [this, cond_true]
    congr 1; exact (decide_eq_false fun h => hlm (by rw [h])).symm
abbrev T_Cat := T_TableS
def cost_Cat (x : T_Cat) : Nat := cost_TableS x + (0)
def sm_Cat (k : Nat) (x : T_Cat) : Prop := sm_TableS k x
theorem cost_sm_Cat {k : Nat} {x : T_Cat} (h : cost_Cat x ≤ k) : sm_Cat k x := by
  unfold cost_Cat at h
  unfold sm_Cat
  exact cost_sm_TableS (by omega)
theorem toCat_ok : EV fun n => ∀ x : T_Cat, sm_Cat 1048576 x → laws_toCat n x = some x := (toTableS_ok.and EV.true).up fun n h x hs => by
  unfold sm_Cat at hs
  have e0 : laws_toTableS n x = some x := h.1 x (hs)
  simp only [laws_toCat, e0, Option.bind_some]
theorem szCat_ok : EV fun n => ∀ (x : T_Cat) (l : Int), sm_Cat 140737488355328 x → 0 ≤ l → l ≤ big → laws_szCat n x l = some (szR (cost_Cat x) l) := (szTableS_ok.and EV.true).up fun n h x l0 hs g0 g1 => by
  unfold sm_Cat at hs
  rw [laws_szCat]
  unfold cost_Cat
  exact sz_call g0 g1 (h.1 x l0 (hs) g0 g1) fun l1 g2 g3 => sz_end g2
theorem eqCat_ok : EV fun n => ∀ (x y : T_Cat), sm_Cat 1048576 x → laws_eqCat n x y = some (decide (x = y)) := (eqTableS_ok.and EV.true).up fun n h x y hs => by
  unfold sm_Cat at hs
  have e0 : laws_eqTableS n x y = some (decide (x = y)) := h.1 x y (hs)
  simp only [laws_eqCat, e0, Option.bind_some, text_eq]
  exact eq_end _
abbrev T_Row := T_ValS
def cost_Row (x : T_Row) : Nat := cost_ValS x + (0)
def sm_Row (k : Nat) (x : T_Row) : Prop := sm_ValS k x
theorem cost_sm_Row {k : Nat} {x : T_Row} (h : cost_Row x ≤ k) : sm_Row k x := by
  unfold cost_Row at h
  unfold sm_Row
  exact cost_sm_ValS (by omega)
theorem toRow_ok : EV fun n => ∀ x : T_Row, sm_Row 1048576 x → laws_toRow n x = some x := (toValS_ok.and EV.true).up fun n h x hs => by
  unfold sm_Row at hs
  have e0 : laws_toValS n x = some x := h.1 x (hs)
  simp only [laws_toRow, e0, Option.bind_some]
theorem szRow_ok : EV fun n => ∀ (x : T_Row) (l : Int), sm_Row 140737488355328 x → 0 ≤ l → l ≤ big → laws_szRow n x l = some (szR (cost_Row x) l) := (szValS_ok.and EV.true).up fun n h x l0 hs g0 g1 => by
  unfold sm_Row at hs
  rw [laws_szRow]
  unfold cost_Row
  exact sz_call g0 g1 (h.1 x l0 (hs) g0 g1) fun l1 g2 g3 => sz_end g2
theorem eqRow_ok : EV fun n => ∀ (x y : T_Row), sm_Row 1048576 x → laws_eqRow n x y = some (decide (x = y)) := (eqValS_ok.and EV.true).up fun n h x y hs => by
  unfold sm_Row at hs
  have e0 : laws_eqValS n x y = some (decide (x = y)) := h.1 x y (hs)
  simp only [laws_eqRow, e0, Option.bind_some, text_eq]
  exact eq_end _
abbrev T_RowS := List T_Row
def cost_RowS (x : T_RowS) : Nat := x.length + (x.map (cost_Row)).sum
def sm_RowS (k : Nat) (l : T_RowS) : Prop := l.length ≤ k ∧ ∀ x ∈ l, sm_Row k x
theorem cost_sm_RowS {k : Nat} {l : T_RowS} (h : cost_RowS l ≤ k) : sm_RowS k l := by
  unfold cost_RowS at h
  unfold sm_RowS
  refine ⟨by omega, fun x hx => ?_⟩
  have := le_sum (f := cost_Row) hx
  exact cost_sm_Row (by omega)
theorem toRowS_ok : EV fun n => ∀ l : T_RowS, sm_RowS 1048576 l → laws_toRowS n l = some l := (toRow_ok.and (EV.gt 1048576)).up fun n h l hl => by
  have hlen := hl.1
  have hroom : (decide ((l.length : Int) = (l.length : Int) ∧ 0 ≤ (l.length : Int)) && room (l.length : Int).toNat 24) = true := by simp [room]; omega
  rw [laws_toRowS, hroom]
  simp only [cond_true]
  refine (copy_loop0 (j := n) l id (fun j k s => laws_toRowS_L1 n j l (k : Int) s) (by omega) (by simp) (fun j s => by simp only [laws_toRowS_L1, lt_cast, Nat.lt_irrefl, decide_false, cond_false]) (fun j k s hk hs => ?_)).trans (by simp)
  have hks : k < s.length := by omega
  have e : laws_toRow n l[k] = some l[k] := h.1 (l[k]) (hl.2 _ (List.getElem_mem hk))
  simp only [laws_toRowS_L1, lt_cast, decide_eq_true hk, inR_true hk, Int.toNat_natCast, getD_at hk, cond_true, wrap_succ hk (by omega), inR_true hks, Option.bind_some, id, e]
theorem szRowS_ok : EV fun n => ∀ (l : T_RowS) (s : Int), sm_RowS 140737488355328 l → 0 ≤ s → s ≤ big → laws_szRowS n l s = some (szR (cost_RowS l) s) := (szRow_ok.and (EV.gt 140737488355328)).up fun n h l s hl g0 g1 => by
  have hlen := hl.1
  rw [laws_szRowS]
  unfold cost_RowS
  refine sz_str (r := fun s => laws_szRowS_L1 n n l s (0 : Int)) (m := l.length) g0 g1 (by simp only [big]; omega) fun s g0 g1 => ?_
  refine sz_loop l _ (fun j k s => laws_szRowS_L1 n j l s (k : Int)) (fun j s => by simp only [laws_szRowS_L1, lt_cast, Nat.lt_irrefl, decide_false, cond_false]) (fun j k s hk h0 h1 => ?_) l n 0 s rfl (by omega) (by omega) g0 g1
  have e : laws_szRow n l[k] s = some (szR (cost_Row l[k]) s) := h.1 (l[k]) s (hl.2 _ (List.getElem_mem hk)) h0 h1
  simp only [laws_szRowS_L1, lt_cast, decide_eq_true hk, inR_true hk, Int.toNat_natCast, getD_at hk, cond_true, wrap_succ hk (by omega), e, Option.bind_some]
  exact szR_step (fun s => laws_szRowS_L1 n j l s ((k + 1 : Nat) : Int)) _ h0
theorem eqRowS_ok : EV fun n => ∀ (l m : T_RowS), sm_RowS 1048576 l → laws_eqRowS n l m = some (decide (l = m)) := (eqRow_ok.and (EV.gt 1048576)).up fun n h l m hl => by
  have hlen := hl.1
  rw [laws_eqRowS]
  by_cases hlm : l.length = m.length
  · have : ((l.length : Int) != (m.length : Int)) = false := by simp [hlm]
    simp only [this, cond_false]
    refine (eq_loop l m hlm (fun j k => laws_eqRowS_L1 n j l m (k : Int)) (fun j => by simp only [laws_eqRowS_L1, lt_cast, Nat.lt_irrefl, decide_false, cond_false]) (fun j k hk hk2 => ?_) l n 0 rfl (by omega) (by omega)).trans (by simp)
    have e : laws_eqRow n l[k] m[k] = some (decide (l[k] = m[k])) := h.1 (l[k]) (m[k]) (hl.2 _ (List.getElem_mem hk))
    simp only [laws_eqRowS_L1, lt_cast, decide_eq_true hk, inR_true hk, Int.toNat_natCast, getD_at hk, cond_true, wrap_succ hk (by omega), getD_at hk2, inR_true hk2, e, Option.bind_some]
    exact eq_step (l[k]) (m[k]) _
  · have : ((l.length : Int) != (m.length : Int)) = true := by simp; omega
    simp only [this, cond_true]
    congr 1; exact (decide_eq_false fun h => hlm (by rw [h])).symm
abbrev T_Rows := T_RowS
def cost_Rows (x : T_Rows) : Nat := cost_RowS x + (0)
def sm_Rows (k : Nat) (x : T_Rows) : Prop := sm_RowS k x
theorem cost_sm_Rows {k : Nat} {x : T_Rows} (h : cost_Rows x ≤ k) : sm_Rows k x := by
  unfold cost_Rows at h
  unfold sm_Rows
  exact cost_sm_RowS (by omega)
theorem toRows_ok : EV fun n => ∀ x : T_Rows, sm_Rows 1048576 x → laws_toRows n x = some x := (toRowS_ok.and EV.true).up fun n h x hs => by
  unfold sm_Rows at hs
  have e0 : laws_toRowS n x = some x := h.1 x (hs)
  simp only [laws_toRows, e0, Option.bind_some]
theorem szRows_ok : EV fun n => ∀ (x : T_Rows) (l : Int), sm_Rows 140737488355328 x → 0 ≤ l → l ≤ big → laws_szRows n x l = some (szR (cost_Rows x) l) := (szRowS_ok.and EV.true).up fun n h x l0 hs g0 g1 => by
  unfold sm_Rows at hs
  rw [laws_szRows]
  unfold cost_Rows
  exact sz_call g0 g1 (h.1 x l0 (hs) g0 g1) fun l1 g2 g3 => sz_end g2
theorem eqRows_ok : EV fun n => ∀ (x y : T_Rows), sm_Rows 1048576 x → laws_eqRows n x y = some (decide (x = y)) := (eqRowS_ok.and EV.true).up fun n h x y hs => by
  unfold sm_Rows at hs
  have e0 : laws_eqRowS n x y = some (decide (x = y)) := h.1 x y (hs)
  simp only [laws_eqRows, e0, Option.bind_some, text_eq]
  exact eq_end _
abbrev T_RowsS := List T_Rows
def cost_RowsS (x : T_RowsS) : Nat := x.length + (x.map (cost_Rows)).sum
def sm_RowsS (k : Nat) (l : T_RowsS) : Prop := l.length ≤ k ∧ ∀ x ∈ l, sm_Rows k x
theorem cost_sm_RowsS {k : Nat} {l : T_RowsS} (h : cost_RowsS l ≤ k) : sm_RowsS k l := by
  unfold cost_RowsS at h
  unfold sm_RowsS
  refine ⟨by omega, fun x hx => ?_⟩
  have := le_sum (f := cost_Rows) hx
  exact cost_sm_Rows (by omega)
theorem toRowsS_ok : EV fun n => ∀ l : T_RowsS, sm_RowsS 1048576 l → laws_toRowsS n l = some l := (toRows_ok.and (EV.gt 1048576)).up fun n h l hl => by
  have hlen := hl.1
  have hroom : (decide ((l.length : Int) = (l.length : Int) ∧ 0 ≤ (l.length : Int)) && room (l.length : Int).toNat 24) = true := by simp [room]; omega
  rw [laws_toRowsS, hroom]
  simp only [cond_true]
  refine (copy_loop0 (j := n) l id (fun j k s => laws_toRowsS_L1 n j l (k : Int) s) (by omega) (by simp) (fun j s => by simp only [laws_toRowsS_L1, lt_cast, Nat.lt_irrefl, decide_false, cond_false]) (fun j k s hk hs => ?_)).trans (by simp)
  have hks : k < s.length := by omega
  have e : laws_toRows n l[k] = some l[k] := h.1 (l[k]) (hl.2 _ (List.getElem_mem hk))
  simp only [laws_toRowsS_L1, lt_cast, decide_eq_true hk, inR_true hk, Int.toNat_natCast, getD_at hk, cond_true, wrap_succ hk (by omega), inR_true hks, Option.bind_some, id, e]
theorem szRowsS_ok : EV fun n => ∀ (l : T_RowsS) (s : Int), sm_RowsS 140737488355328 l → 0 ≤ s → s ≤ big → laws_szRowsS n l s = some (szR (cost_RowsS l) s) := (szRows_ok.and (EV.gt 140737488355328)).up fun n h l s hl g0 g1 => by
  have hlen := hl.1
  rw [laws_szRowsS]
  unfold cost_RowsS
  refine sz_str (r := fun s => laws_szRowsS_L1 n n l s (0 : Int)) (m := l.length) g0 g1 (by simp only [big]; omega) fun s g0 g1 => ?_
  refine sz_loop l _ (fun j k s => laws_szRowsS_L1 n j l s (k : Int)) (fun j s => by simp only [laws_szRowsS_L1, lt_cast, Nat.lt_irrefl, decide_false, cond_false]) (fun j k s hk h0 h1 => ?_) l n 0 s rfl (by omega) (by omega) g0 g1
  have e : laws_szRows n l[k] s = some (szR (cost_Rows l[k]) s) := h.1 (l[k]) s (hl.2 _ (List.getElem_mem hk)) h0 h1
  simp only [laws_szRowsS_L1, lt_cast, decide_eq_true hk, inR_true hk, Int.toNat_natCast, getD_at hk, cond_true, wrap_succ hk (by omega), e, Option.bind_some]
  exact szR_step (fun s => laws_szRowsS_L1 n j l s ((k + 1 : Nat) : Int)) _ h0
theorem eqRowsS_ok : EV fun n => ∀ (l m : T_RowsS), sm_RowsS 1048576 l → laws_eqRowsS n l m = some (decide (l = m)) := (eqRows_ok.and (EV.gt 1048576)).up fun n h l m hl => by
  have hlen := hl.1
  rw [laws_eqRowsS]
  by_cases hlm : l.length = m.length
  · have : ((l.length : Int) != (m.length : Int)) = false := by simp [hlm]
    simp only [this, cond_false]
    refine (eq_loop l m hlm (fun j k => laws_eqRowsS_L1 n j l m (k : Int)) (fun j => by simp only [laws_eqRowsS_L1, lt_cast, Nat.lt_irrefl, decide_false, cond_false]) (fun j k hk hk2 => ?_) l n 0 rfl (by omega) (by omega)).trans (by simp)
    have e : laws_eqRows n l[k] m[k] = some (decide (l[k] = m[k])) := h.1 (l[k]) (m[k]) (hl.2 _ (List.getElem_mem hk))
    simp only [laws_eqRowsS_L1, lt_cast, decide_eq_true hk, inR_true hk, Int.toNat_natCast, getD_at hk, cond_true, wrap_succ hk (by omega), getD_at hk2, inR_true hk2, e, Option.bind_some]
    exact eq_step (l[k]) (m[k]) _
  · have : ((l.length : Int) != (m.length : Int)) = true := by simp; omega
    simp only [this, cond_true]
    congr 1; exact (decide_eq_false fun h => hlm (by rw [h])).symm
abbrev T_Db := T_Cat × (T_RowsS)
instance i_Db : DecidableEq T_Db := @instDecidableEqProd _ _ inferInstance (inferInstance)
def cost_Db (x : T_Db) : Nat := cost_Cat x.1 + (cost_RowsS x.2 + (0))
def sm_Db (k : Nat) (x : T_Db) : Prop := sm_Cat k x.1 ∧ sm_RowsS k x.2
theorem cost_sm_Db {k : Nat} {x : T_Db} (h : cost_Db x ≤ k) : sm_Db k x := by
  unfold cost_Db at h
  unfold sm_Db
  exact ⟨cost_sm_Cat (by omega), cost_sm_RowsS (by omega)⟩
theorem toDb_ok : EV fun n => ∀ x : T_Db, sm_Db 1048576 x → laws_toDb n x.1 x.2 = some x := (toCat_ok.and (toRowsS_ok.and EV.true)).up fun n h x hs => by
  unfold sm_Db at hs
  have e0 : laws_toCat n x.1 = some x.1 := h.1 x.1 (hs.1)
  have e1 : laws_toRowsS n x.2 = some x.2 := h.2.1 x.2 (hs.2)
  simp only [laws_toDb, e0, e1, Option.bind_some]
theorem szDb_ok : EV fun n => ∀ (x : T_Db) (l : Int), sm_Db 140737488355328 x → 0 ≤ l → l ≤ big → laws_szDb n x.1 x.2 l = some (szR (cost_Db x) l) := (szCat_ok.and (szRowsS_ok.and EV.true)).up fun n h x l0 hs g0 g1 => by
  unfold sm_Db at hs
  rw [laws_szDb]
  unfold cost_Db
  exact sz_call g0 g1 (h.1 x.1 l0 (hs.1) g0 g1) fun l1 g2 g3 => sz_call g2 g3 (h.2.1 x.2 l1 (hs.2) g2 g3) fun l2 g4 g5 => sz_end g4
theorem eqDb_ok : EV fun n => ∀ (x y : T_Db), sm_Db 1048576 x → laws_eqDb n x.1 x.2 y.1 y.2 = some (decide (x = y)) := (eqCat_ok.and (eqRowsS_ok.and EV.true)).up fun n h x y hs => by
  unfold sm_Db at hs
  have e0 : laws_eqCat n x.1 y.1 = some (decide (x.1 = y.1)) := h.1 x.1 y.1 (hs.1)
  have e1 : laws_eqRowsS n x.2 y.2 = some (decide (x.2 = y.2)) := h.2.1 x.2 y.2 (hs.2)
  simp only [laws_eqDb, e0, e1, Option.bind_some, text_eq]
  obtain ⟨x0 , x1⟩ := x
  obtain ⟨y0 , y1⟩ := y
  simp only [eq_step, eq_step2, eq_step3, eq_last, eq_and]
  exact congrArg some (decide_eq_decide.mpr (by simp only [Prod.mk.injEq]))
abbrev T_Ddl := Int × (ByteArray × (T_ColS × (T_StringS × (ByteArray × (ByteArray)))))
instance i_Ddl : DecidableEq T_Ddl := @instDecidableEqProd _ _ inferInstance (@instDecidableEqProd _ _ inferInstance (@instDecidableEqProd _ _ inferInstance (@instDecidableEqProd _ _ inferInstance (@instDecidableEqProd _ _ inferInstance (inferInstance)))))
def cost_Ddl (x : T_Ddl) : Nat := x.2.1.size + (cost_ColS x.2.2.1 + (cost_StringS x.2.2.2.1 + (x.2.2.2.2.1.size + (x.2.2.2.2.2.size + (0)))))
def sm_Ddl (k : Nat) (x : T_Ddl) : Prop := x.2.1.size ≤ k ∧ sm_ColS k x.2.2.1 ∧ sm_StringS k x.2.2.2.1 ∧ x.2.2.2.2.1.size ≤ k ∧ x.2.2.2.2.2.size ≤ k
theorem cost_sm_Ddl {k : Nat} {x : T_Ddl} (h : cost_Ddl x ≤ k) : sm_Ddl k x := by
  unfold cost_Ddl at h
  unfold sm_Ddl
  exact ⟨by omega, cost_sm_ColS (by omega), cost_sm_StringS (by omega), by omega, by omega⟩
abbrev T_Stmt := Int × (ByteArray × (T_ValS × (T_Row × (T_Ddl))))
instance i_Stmt : DecidableEq T_Stmt := @instDecidableEqProd _ _ inferInstance (@instDecidableEqProd _ _ inferInstance (@instDecidableEqProd _ _ inferInstance (@instDecidableEqProd _ _ inferInstance (inferInstance))))
def cost_Stmt (x : T_Stmt) : Nat := x.2.1.size + (cost_ValS x.2.2.1 + (cost_Row x.2.2.2.1 + (cost_Ddl x.2.2.2.2 + (0))))
def sm_Stmt (k : Nat) (x : T_Stmt) : Prop := x.2.1.size ≤ k ∧ sm_ValS k x.2.2.1 ∧ sm_Row k x.2.2.2.1 ∧ sm_Ddl k x.2.2.2.2
theorem cost_sm_Stmt {k : Nat} {x : T_Stmt} (h : cost_Stmt x ≤ k) : sm_Stmt k x := by
  unfold cost_Stmt at h
  unfold sm_Stmt
  exact ⟨by omega, cost_sm_ValS (by omega), cost_sm_Row (by omega), cost_sm_Ddl (by omega)⟩
abbrev T_StmtS := List T_Stmt
def cost_StmtS (x : T_StmtS) : Nat := x.length + (x.map (cost_Stmt)).sum
def sm_StmtS (k : Nat) (l : T_StmtS) : Prop := l.length ≤ k ∧ ∀ x ∈ l, sm_Stmt k x
theorem cost_sm_StmtS {k : Nat} {l : T_StmtS} (h : cost_StmtS l ≤ k) : sm_StmtS k l := by
  unfold cost_StmtS at h
  unfold sm_StmtS
  refine ⟨by omega, fun x hx => ?_⟩
  have := le_sum (f := cost_Stmt) hx
  exact cost_sm_Stmt (by omega)
abbrev T_Rec := Int × (Int × (T_Stmt))
instance i_Rec : DecidableEq T_Rec := @instDecidableEqProd _ _ inferInstance (@instDecidableEqProd _ _ inferInstance (inferInstance))
def cost_Rec (x : T_Rec) : Nat := cost_Stmt x.2.2 + (0)
def sm_Rec (k : Nat) (x : T_Rec) : Prop := sm_Stmt k x.2.2
theorem cost_sm_Rec {k : Nat} {x : T_Rec} (h : cost_Rec x ≤ k) : sm_Rec k x := by
  unfold cost_Rec at h
  unfold sm_Rec
  exact cost_sm_Stmt (by omega)
abbrev T_RecS := List T_Rec
def cost_RecS (x : T_RecS) : Nat := x.length + (x.map (cost_Rec)).sum
def sm_RecS (k : Nat) (l : T_RecS) : Prop := l.length ≤ k ∧ ∀ x ∈ l, sm_Rec k x
theorem cost_sm_RecS {k : Nat} {l : T_RecS} (h : cost_RecS l ≤ k) : sm_RecS k l := by
  unfold cost_RecS at h
  unfold sm_RecS
  refine ⟨by omega, fun x hx => ?_⟩
  have := le_sum (f := cost_Rec) hx
  exact cost_sm_Rec (by omega)
abbrev T_ByteS := List Int
def cost_ByteS (x : T_ByteS) : Nat := x.length + (x.map (fun _ => 0)).sum
def sm_ByteS (k : Nat) (l : T_ByteS) : Prop := l.length ≤ k ∧ ∀ x ∈ l, 0 ≤ x ∧ x ≤ 255
abbrev T_IntS := List Int
def cost_IntS (x : T_IntS) : Nat := x.length + (x.map (fun _ => 0)).sum
def sm_IntS (k : Nat) (l : T_IntS) : Prop := l.length ≤ k ∧ ∀ x ∈ l, True
theorem cost_sm_IntS {k : Nat} {l : T_IntS} (h : cost_IntS l ≤ k) : sm_IntS k l := by
  unfold cost_IntS at h
  unfold sm_IntS
  refine ⟨by omega, fun x hx => ?_⟩
  trivial

theorem wf_str {n : Nat} (h : n ≤ reachBytes) : n ≤ 140737488355328 := Nat.le_trans h (by decide)
theorem wf_len {n b : Nat} (hb : 1 ≤ b) (h : n * b ≤ reachBytes) : n ≤ 140737488355328 := Nat.le_trans (Nat.le_trans (Nat.le_mul_of_pos_right n hb) h) (by decide)
abbrev K_Val : Kd := .pair (.int .i64) (.pair (.int .i64) (.str))
theorem wf_Val {B : Kd → Nat} (hB : ∀ g, 1 ≤ B g) (x : T_Val) (h : Wf B K_Val x) : sm_Val 140737488355328 x := wf_str h.2.2
abbrev K_ValS : Kd := .sl K_Val
theorem wf_ValS {B : Kd → Nat} (hB : ∀ g, 1 ≤ B g) (x : T_ValS) (h : Wf B K_ValS x) : sm_ValS 140737488355328 x := ⟨wf_len (hB _) h.1, fun y hy => wf_Val hB y (h.2 y hy)⟩
abbrev K_Col : Kd := .pair .str (.pair (.int .i64) (.pair .bool (.pair .bool (K_Val))))
theorem wf_Col {B : Kd → Nat} (hB : ∀ g, 1 ≤ B g) (x : T_Col) (h : Wf B K_Col x) : sm_Col 140737488355328 x := ⟨wf_str h.1, wf_Val hB x.2.2.2.2 h.2.2.2.2⟩
abbrev K_ColS : Kd := .sl K_Col
theorem wf_ColS {B : Kd → Nat} (hB : ∀ g, 1 ≤ B g) (x : T_ColS) (h : Wf B K_ColS x) : sm_ColS 140737488355328 x := ⟨wf_len (hB _) h.1, fun y hy => wf_Col hB y (h.2 y hy)⟩
abbrev K_StringS : Kd := .sl .str
theorem wf_StringS {B : Kd → Nat} (hB : ∀ g, 1 ≤ B g) (x : T_StringS) (h : Wf B K_StringS x) : sm_StringS 140737488355328 x := ⟨wf_len (hB _) h.1, fun y hy => wf_str (h.2 y hy)⟩
abbrev K_Table : Kd := .pair .str (.pair K_ColS (K_StringS))
theorem wf_Table {B : Kd → Nat} (hB : ∀ g, 1 ≤ B g) (x : T_Table) (h : Wf B K_Table x) : sm_Table 140737488355328 x := ⟨wf_str h.1, wf_ColS hB x.2.1 h.2.1, wf_StringS hB x.2.2 h.2.2⟩
abbrev K_TableS : Kd := .sl K_Table
theorem wf_TableS {B : Kd → Nat} (hB : ∀ g, 1 ≤ B g) (x : T_TableS) (h : Wf B K_TableS x) : sm_TableS 140737488355328 x := ⟨wf_len (hB _) h.1, fun y hy => wf_Table hB y (h.2 y hy)⟩
abbrev K_Cat : Kd := K_TableS
theorem wf_Cat {B : Kd → Nat} (hB : ∀ g, 1 ≤ B g) (x : T_Cat) (h : Wf B K_Cat x) : sm_Cat 140737488355328 x := wf_TableS hB x h
abbrev K_Row : Kd := K_ValS
theorem wf_Row {B : Kd → Nat} (hB : ∀ g, 1 ≤ B g) (x : T_Row) (h : Wf B K_Row x) : sm_Row 140737488355328 x := wf_ValS hB x h
abbrev K_RowS : Kd := .sl K_Row
theorem wf_RowS {B : Kd → Nat} (hB : ∀ g, 1 ≤ B g) (x : T_RowS) (h : Wf B K_RowS x) : sm_RowS 140737488355328 x := ⟨wf_len (hB _) h.1, fun y hy => wf_Row hB y (h.2 y hy)⟩
abbrev K_Rows : Kd := K_RowS
theorem wf_Rows {B : Kd → Nat} (hB : ∀ g, 1 ≤ B g) (x : T_Rows) (h : Wf B K_Rows x) : sm_Rows 140737488355328 x := wf_RowS hB x h
abbrev K_RowsS : Kd := .sl K_Rows
theorem wf_RowsS {B : Kd → Nat} (hB : ∀ g, 1 ≤ B g) (x : T_RowsS) (h : Wf B K_RowsS x) : sm_RowsS 140737488355328 x := ⟨wf_len (hB _) h.1, fun y hy => wf_Rows hB y (h.2 y hy)⟩
abbrev K_Db : Kd := .pair K_Cat (K_RowsS)
theorem wf_Db {B : Kd → Nat} (hB : ∀ g, 1 ≤ B g) (x : T_Db) (h : Wf B K_Db x) : sm_Db 140737488355328 x := ⟨wf_Cat hB x.1 h.1, wf_RowsS hB x.2 h.2⟩
abbrev K_Ddl : Kd := .pair (.int .i64) (.pair .str (.pair K_ColS (.pair K_StringS (.pair .str (.str)))))
theorem wf_Ddl {B : Kd → Nat} (hB : ∀ g, 1 ≤ B g) (x : T_Ddl) (h : Wf B K_Ddl x) : sm_Ddl 140737488355328 x := ⟨wf_str h.2.1, wf_ColS hB x.2.2.1 h.2.2.1, wf_StringS hB x.2.2.2.1 h.2.2.2.1, wf_str h.2.2.2.2.1, wf_str h.2.2.2.2.2⟩
abbrev K_Stmt : Kd := .pair (.int .i64) (.pair .str (.pair K_ValS (.pair K_Row (K_Ddl))))
theorem wf_Stmt {B : Kd → Nat} (hB : ∀ g, 1 ≤ B g) (x : T_Stmt) (h : Wf B K_Stmt x) : sm_Stmt 140737488355328 x := ⟨wf_str h.2.1, wf_ValS hB x.2.2.1 h.2.2.1, wf_Row hB x.2.2.2.1 h.2.2.2.1, wf_Ddl hB x.2.2.2.2 h.2.2.2.2⟩
abbrev K_StmtS : Kd := .sl K_Stmt
theorem wf_StmtS {B : Kd → Nat} (hB : ∀ g, 1 ≤ B g) (x : T_StmtS) (h : Wf B K_StmtS x) : sm_StmtS 140737488355328 x := ⟨wf_len (hB _) h.1, fun y hy => wf_Stmt hB y (h.2 y hy)⟩
abbrev K_Rec : Kd := .pair (.int .i64) (.pair (.int .i64) (K_Stmt))
theorem wf_Rec {B : Kd → Nat} (hB : ∀ g, 1 ≤ B g) (x : T_Rec) (h : Wf B K_Rec x) : sm_Rec 140737488355328 x := wf_Stmt hB x.2.2 h.2.2
abbrev K_RecS : Kd := .sl K_Rec
theorem wf_RecS {B : Kd → Nat} (hB : ∀ g, 1 ≤ B g) (x : T_RecS) (h : Wf B K_RecS x) : sm_RecS 140737488355328 x := ⟨wf_len (hB _) h.1, fun y hy => wf_Rec hB y (h.2 y hy)⟩
abbrev K_ByteS : Kd := .sl (.int .u8)
theorem wf_ByteS {B : Kd → Nat} (hB : ∀ g, 1 ≤ B g) (x : T_ByteS) (h : Wf B K_ByteS x) : sm_ByteS 140737488355328 x := ⟨wf_len (hB _) h.1, fun y hy => h.2 y hy⟩
abbrev K_IntS : Kd := .sl (.int .i64)
theorem wf_IntS {B : Kd → Nat} (hB : ∀ g, 1 ≤ B g) (x : T_IntS) (h : Wf B K_IntS x) : sm_IntS 140737488355328 x := ⟨wf_len (hB _) h.1, fun y hy => trivial⟩
abbrev E0 : ByteArray := ⟨#[]⟩
/-! ### words, numbers, values -/
theorem within_ok : EV fun n => ∀ a b c, impl_within n a b c = some (decide (b ≤ a ∧ a ≤ c)) := EV.true.up fun n _ a b c => by
  simp only [impl_within]
  by_cases h : b ≤ a <;> simp [h]
theorem l01Num_ok : EV fun n => ∀ a, spec_l01Num n a = some (decide (-1099511627775 ≤ a ∧ a ≤ 1099511627775)) := EV.true.up fun n _ a => by
  simp only [spec_l01Num]
  by_cases h : -1099511627775 ≤ a <;> simp [h]
def lower (b : UInt8) : Bool := decide (97 ≤ b.toNat ∧ b.toNat ≤ 122)
def cWordOk (s : ByteArray) : Bool := s.data.toList.all lower && decide (1 ≤ s.size ∧ s.size ≤ 8)
theorem spec_WordOk_ok : EV fun n => ∀ s : ByteArray, s.size ≤ 1048576 → spec_WordOk n s = some (cWordOk s) := (EV.gt 1048576).up fun n h s hs => by
  rw [spec_WordOk]
  refine (alongT s (fun j k (_ : Unit) => spec_WordOk_L1 n j s (k : Int)) (fun t _ => some (t.all lower && decide (1 ≤ s.size ∧ s.size ≤ 8))) (fun j _ => ?_) (fun j k x t _ hd hk hb ih => ?_) (by omega) ())
  · simp only [spec_WordOk_L1, lt_cast, Nat.lt_irrefl, decide_false, cond_false, List.all_nil, Bool.true_and]
    by_cases h1 : (1 : Int) ≤ (s.size : Int)
    · simp only [decide_eq_true h1, cond_true]; congr 1; exact decide_eq_decide.mpr (by omega)
    · simp only [decide_eq_false h1, cond_false]; congr 1; exact (decide_eq_false (by omega)).symm
  · simp only [spec_WordOk_L1, lt_cast, decide_eq_true hk, inR_true hk, cond_true, hb, wrap_succ hk (by omega), List.all_cons]
    have := ih ()
    rw [this]
    by_cases h1 : (x.toNat : Int) < 97
    · have : lower x = false := decide_eq_false (by omega)
      simp only [decide_eq_true h1, cond_true, this, Bool.false_and]
    · by_cases h2 : (122 : Int) < (x.toNat : Int)
      · have : lower x = false := decide_eq_false (by omega)
        simp only [decide_eq_true h2, decide_eq_false h1, cond_true, cond_false, this, Bool.false_and]
      · have : lower x = true := decide_eq_true (by omega)
        simp only [decide_eq_false h2, decide_eq_false h1, cond_false, this, Bool.true_and]
theorem impl_WordOk_ok : EV fun n => ∀ s : ByteArray, s.size ≤ 1048576 → impl_WordOk n s = some (cWordOk s) := (within_ok.and (EV.gt 1048576)).up fun n ⟨hw, h⟩ s hs => by
  rw [impl_WordOk]
  refine (alongT s (fun j k (_ : Unit) => impl_WordOk_L1 n j s (k : Int)) (fun t _ => some (t.all lower && decide (1 ≤ s.size ∧ s.size ≤ 8))) (fun j _ => ?_) (fun j k x t _ hd hk hb ih => ?_) (by omega) ())
  · simp only [impl_WordOk_L1, lt_cast, Nat.lt_irrefl, decide_false, cond_false, List.all_nil, Bool.true_and, hw, Option.bind_some]
    congr 1; exact decide_eq_decide.mpr (by omega)
  · simp only [impl_WordOk_L1, lt_cast, decide_eq_true hk, inR_true hk, cond_true, hb, wrap_succ hk (by omega), List.all_cons]
    have := ih ()
    rw [this]
    by_cases h1 : (x.toNat : Int) < 97
    · have : lower x = false := decide_eq_false (by omega)
      simp only [decide_eq_true h1, cond_true, this, Bool.false_and]
    · by_cases h2 : (122 : Int) < (x.toNat : Int)
      · have : lower x = false := decide_eq_false (by omega)
        simp only [decide_eq_true h2, decide_eq_false h1, cond_true, cond_false, this, Bool.false_and]
      · have : lower x = true := decide_eq_true (by omega)
        simp only [decide_eq_false h2, decide_eq_false h1, cond_false, this, Bool.true_and]
def cValOk (a b : Int) (s : ByteArray) : Bool :=
  if a = 0 then decide (b = 0) && decide (s = E0) else if a = 1 then decide (b = 0 ∨ b = 1) && decide (s = E0) else
  if a = 2 then decide (-1099511627775 ≤ b ∧ b ≤ 1099511627775) && decide (s = E0) else if a = 3 then decide (b = 0) && decide (s.size ≤ 30) else false
theorem spec_ValOk_ok : EV fun n => ∀ a b s, spec_ValOk n a b s = some (cValOk a b s) := l01Num_ok.up fun n h a b s => by
  have hz : decide ((s.size : Int) ≤ 30) = decide (s.size ≤ 30) := decide_eq_decide.mpr (by omega)
  simp only [spec_ValOk, h, text_eq, Option.bind_some, int_beq, hz]
  generalize he : decide (s = E0) = e
  have he' : decide (s = ⟨#[]⟩) = e := he
  simp only [cValOk, he, he']
  by_cases h0 : a = 0
  · subst h0; by_cases hb : b = 0 <;> simp [hb]
  · by_cases h1 : a = 1
    · subst h1; by_cases hb : b = 0
      · simp [hb]
      · by_cases hb1 : b = 1 <;> simp [hb, hb1]
    · by_cases h2 : a = 2
      · subst h2; by_cases hb : -1099511627775 ≤ b ∧ b ≤ 1099511627775 <;> simp [hb]
      · by_cases h3 : a = 3
        · subst h3; by_cases hb : b = 0 <;> simp [hb]
        · simp [h0, h1, h2, h3]
theorem impl_ValOk_ok : EV fun n => ∀ a b s, impl_ValOk n a b s = some (cValOk a b s) := within_ok.up fun n h a b s => by
  have hz : decide ((s.size : Int) ≤ 30) = decide (s.size ≤ 30) := decide_eq_decide.mpr (by omega)
  simp only [impl_ValOk, h, text_eq, Option.bind_some, int_beq, hz]
  generalize he : decide (s = E0) = e
  have he' : decide (s = ⟨#[]⟩) = e := he
  simp only [cValOk, he, he']
  by_cases h0 : a = 0
  · subst h0; by_cases hb : b = 0 <;> simp [hb]
  · by_cases h1 : a = 1
    · subst h1; by_cases hb : b = 0
      · simp [hb]
      · by_cases hb1 : b = 1
        · simp [hb, hb1]
        · have : ¬ (0 ≤ b ∧ b ≤ 1) := by omega
          simp [hb, hb1, this]
    · by_cases h2 : a = 2
      · subst h2; by_cases hb : -1099511627775 ≤ b ∧ b ≤ 1099511627775 <;> simp [hb]
      · by_cases h3 : a = 3
        · subst h3; by_cases hb : b = 0 <;> simp [hb]
        · simp [h0, h1, h2, h3]
def cValLess (x y : T_Val) : Bool :=
  cValOk x.1 x.2.1 x.2.2 && cValOk y.1 y.2.1 y.2.2 && (if x.1 = y.1 then (if x.2.1 = y.2.1 then Op.bytesLess x.2.2.toList y.2.2.toList else decide (x.2.1 < y.2.1)) else decide (x.1 < y.1))
theorem spec_ValLess_ok : EV fun n => ∀ x y : T_Val, spec_ValLess n x.1 x.2.1 x.2.2 y.1 y.2.1 y.2.2 = some (cValLess x y) := spec_ValOk_ok.up fun n h x y => by
  obtain ⟨a, b, s⟩ := x; obtain ⟨c, d, t⟩ := y
  simp only [spec_ValLess, h, Option.bind_some, cValLess, int_beq, int_bne]
  cases cValOk a b s <;> cases cValOk c d t <;> simp
  by_cases h1 : a = c
  · by_cases h2 : b = d
    · simp [h1, h2]
    · by_cases h3 : b < d <;> simp [h1, h2, h3]
  · simp [h1]
theorem impl_ValLess_ok : EV fun n => ∀ x y : T_Val, impl_ValLess n x.1 x.2.1 x.2.2 y.1 y.2.1 y.2.2 = some (cValLess x y) := impl_ValOk_ok.up fun n h x y => by
  obtain ⟨a, b, s⟩ := x; obtain ⟨c, d, t⟩ := y
  simp only [impl_ValLess, h, Option.bind_some, cValLess, int_beq, int_bne]
  cases cValOk a b s <;> cases cValOk c d t <;> simp
  by_cases h1 : a = c
  · by_cases h2 : b = d
    · simp [h1, h2]
    · by_cases h3 : b < d <;> simp [h1, h2, h3]
  · simp [h1]
def null : T_Val := (0, 0, E0)
def cColOk (x : T_Col) : Bool :=
  cWordOk x.1 && decide (1 ≤ x.2.1 ∧ x.2.1 ≤ 3) && (if x.2.2.2.1 then cValOk x.2.2.2.2.1 x.2.2.2.2.2.1 x.2.2.2.2.2.2 && (decide (x.2.2.2.2.1 = x.2.1) || decide (x.2.2.2.2.1 = 0) && !x.2.2.1) else decide (x.2.2.2.2 = null))
theorem null_eq (a b : Int) (s : ByteArray) : ((a == (0 : Int)) && ((b == (0 : Int)) && (decide (s = E0) && true))) = decide ((a, b, s) = null) := by
  by_cases h1 : a = 0 <;> by_cases h2 : b = 0 <;> by_cases h3 : s = E0 <;> simp [null, h1, h2, h3]
theorem spec_ColOk_ok : EV fun n => ∀ x : T_Col, sm_Col 1048576 x → spec_ColOk n x.1 x.2.1 x.2.2.1 x.2.2.2.1 x.2.2.2.2.1 x.2.2.2.2.2.1 x.2.2.2.2.2.2 = some (cColOk x) := (spec_WordOk_ok.and spec_ValOk_ok).up fun n ⟨h1, h2⟩ x hs => by
  obtain ⟨a, t, nt, hs', v⟩ := x
  obtain ⟨b, c, s⟩ := v
  have hw := h1 a hs.1
  simp only [spec_ColOk, hw, h2, Option.bind_some, text_eq, null_eq, cColOk]
  cases cWordOk a
  · simp
  by_cases c1 : t < 1
  · simp [c1]; omega
  by_cases c2 : 3 < t
  · simp [c1, c2]; omega
  have c3 : 1 ≤ t ∧ t ≤ 3 := by omega
  simp only [Bool.not_true, cond_false, decide_eq_false c1, decide_eq_false c2, decide_eq_true c3, Bool.true_and]
  cases hs' <;> simp
  cases hv : cValOk b c s
  · simp
  by_cases hn : (b, c, s) = null
  · have h0 : ¬ (0 : Int) = t := by omega
    simp only [null, Prod.mk.injEq] at hn; obtain ⟨rfl, rfl, rfl⟩ := hn
    cases nt <;> simp [null, h0]
  · by_cases hbt : b = t
    · subst hbt; cases nt <;> simp [hn, int_beq]
    · by_cases hb : b = 0
      · exfalso
        subst hb
        simp [cValOk] at hv
        exact hn (by simp [null, hv])
      · cases nt <;> simp [hn, hbt, hb, int_beq]
theorem impl_ColOk_ok : EV fun n => ∀ x : T_Col, sm_Col 1048576 x → impl_ColOk n x.1 x.2.1 x.2.2.1 x.2.2.2.1 x.2.2.2.2.1 x.2.2.2.2.2.1 x.2.2.2.2.2.2 = some (cColOk x) := (impl_WordOk_ok.and (impl_ValOk_ok.and within_ok)).up fun n ⟨h1, h2, h3⟩ x hs => by
  obtain ⟨a, t, nt, hs', v⟩ := x
  obtain ⟨b, c, s⟩ := v
  have hw := h1 a hs.1
  simp only [impl_ColOk, hw, h2, h3, Option.bind_some, text_eq, null_eq, cColOk]
  cases cWordOk a
  · simp
  by_cases c3 : 1 ≤ t ∧ t ≤ 3
  · simp only [Bool.not_true, cond_false, decide_eq_true c3, Bool.true_and]
    cases hs'
    · by_cases hn : (b, c, s) = null
      · have : cValOk b c s = true := by
          simp [null] at hn; obtain ⟨rfl, rfl, rfl⟩ := hn; rfl
        simp [hn, this]
      · cases cValOk b c s <;> simp [hn]
    · cases cValOk b c s <;> simp
      by_cases hbt : b = t
      · simp [hbt, int_beq]
      · by_cases hb : b = 0
        · subst hb; cases nt <;> simp [hbt, int_beq]
        · simp [hbt, hb, int_beq]
  · simp [decide_eq_false c3]
theorem val_eq (x y : T_Val) : ((x.1 == y.1) && ((x.2.1 == y.2.1) && ((x.2.2.toList == y.2.2.toList) && true))) = decide (x = y) := by
  obtain ⟨a, b, s⟩ := x; obtain ⟨c, d, t⟩ := y
  simp only [text_eq, int_beq]
  by_cases h1 : a = c <;> by_cases h2 : b = d <;> by_cases h3 : s = t <;> simp [h1, h2, h3]
def cKeyLess : List T_Val → List T_Val → Bool
  | [], [] => false
  | [], _ :: _ => true
  | _ :: _, [] => false
  | x :: s, y :: t => if x = y then cKeyLess s t else cValLess x y
theorem spec_KeyLess_ok : EV fun n => ∀ x y : T_ValS, x.length ≤ 1048576 → spec_KeyLess n x y = some (cKeyLess x y) := (spec_ValLess_ok.and (EV.gt 1048576)).up fun n ⟨h, hn⟩ x y hx => by
  rw [spec_KeyLess]
  have key : ∀ (s : T_ValS) (j k : Nat), x.drop k = s → k ≤ x.length → k ≤ y.length → s.length < j → spec_KeyLess_L1 n j x y (k : Int) = some (cKeyLess s (y.drop k)) := by
    intro s
    induction s with
    | nil =>
      intro j k hd hk hky hj
      obtain ⟨j, rfl⟩ : ∃ i, j = i + 1 := ⟨j - 1, by simp at hj; omega⟩
      have : k = x.length := by
        rcases Nat.lt_or_ge k x.length with h' | h'
        · rw [List.drop_eq_getElem_cons h'] at hd; cases hd
        · omega
      subst this
      simp only [spec_KeyLess_L1, lt_cast, Nat.lt_irrefl, decide_false, cond_false]
      cases hy : y.drop x.length with
      | nil =>
        have : y.length ≤ x.length := List.drop_eq_nil_iff.mp hy
        rw [decide_eq_false (by omega)]; rfl
      | cons z t =>
        have : x.length < y.length := (drop_cons hy z).1
        rw [decide_eq_true this]; rfl
    | cons a s ih =>
      intro j k hd hk hky hj
      obtain ⟨j, rfl⟩ : ∃ i, j = i + 1 := ⟨j - 1, by simp at hj; omega⟩
      obtain ⟨h1, h2, h3⟩ := drop_cons hd (0, 0, E0)
      simp only [spec_KeyLess_L1, lt_cast, decide_eq_true h1, cond_true]
      cases hy : y.drop k with
      | nil =>
        have : y.length ≤ k := List.drop_eq_nil_iff.mp hy
        rw [decide_eq_false (by omega), cond_false, decide_eq_false (by omega)]; rfl
      | cons b t =>
        obtain ⟨g1, g2, g3⟩ := drop_cons hy (0, 0, E0)
        simp only [decide_eq_true g1, cond_true, inR_true h1, inR_true g1, Int.toNat_natCast, wrap_succ h1 (by omega)]
        rw [show x.getD k (0, 0, ⟨#[]⟩) = a from h2, show y.getD k (0, 0, ⟨#[]⟩) = b from g2, val_eq, h, ih j (k + 1) h3 (by omega) (by omega) (by simp at hj; omega), g3]
        simp only [cKeyLess, bif_step, Option.bind_some]
        by_cases e : a = b <;> simp [e]
  exact key x n 0 rfl (by omega) (by omega) (by omega)
theorem impl_KeyLess_L1_eq {n : Nat} (h : ∀ x y : T_Val, impl_ValLess n x.1 x.2.1 x.2.2 y.1 y.2.1 y.2.2 = spec_ValLess n x.1 x.2.1 x.2.2 y.1 y.2.1 y.2.2) : ∀ (j : Nat) (x y : T_ValS) (i : Int), impl_KeyLess_L1 n j x y i = spec_KeyLess_L1 n j x y i
  | 0, _, _, _ => rfl
  | j + 1, x, y, i => by simp only [impl_KeyLess_L1, spec_KeyLess_L1, h, impl_KeyLess_L1_eq h j]
theorem impl_KeyLess_ok : EV fun n => ∀ x y : T_ValS, x.length ≤ 1048576 → impl_KeyLess n x y = some (cKeyLess x y) := by
  obtain ⟨N, h⟩ := spec_KeyLess_ok.and (spec_ValLess_ok.and impl_ValLess_ok)
  refine ⟨N + 1, fun n hn x y hx => ?_⟩
  obtain ⟨m, rfl⟩ : ∃ m, n = m + 1 := ⟨n - 1, by omega⟩
  have h1 := (h (m + 1) (by omega)).1 x y hx
  have h2 := (h m (by omega)).2
  rw [spec_KeyLess] at h1
  rw [impl_KeyLess, impl_KeyLess_L1_eq (fun x y => by rw [h2.1, h2.2])]
  exact h1
theorem spec_l03SameVals_ok : EV fun n => ∀ x y : T_ValS, x.length ≤ 1048576 → spec_l03SameVals n x y = some (decide (x = y)) := (EV.gt 1048576).up fun n hn x y hx => by
  rw [spec_l03SameVals]
  by_cases hl : x.length = y.length
  · have : ((x.length : Int) != (y.length : Int)) = false := by simp [hl]
    simp only [this, cond_false]
    refine (eq_loop x y hl (fun j k => spec_l03SameVals_L1 n j x y (x.length : Int) (k : Int)) (fun j => by simp only [spec_l03SameVals_L1, lt_cast, Nat.lt_irrefl, decide_false, cond_false]) (fun j k hk hk2 => ?_) x n 0 rfl (by omega) (by omega)).trans (by simp)
    simp only [spec_l03SameVals_L1, lt_cast, decide_eq_true hk, inR_true hk, inR_true hk2, Int.toNat_natCast, getD_at hk, getD_at hk2, cond_true, wrap_succ hk (by omega), val_eq]
    exact eq_step _ _ _
  · have : ((x.length : Int) != (y.length : Int)) = true := by simp; omega
    simp only [this, cond_true]
    congr 1; exact (decide_eq_false fun h => hl (by rw [h])).symm
theorem slices_EqualVal_ok : EV fun n => ∀ x y : T_ValS, x.length ≤ 1048576 → slices_Equal_impl_Val_impl_Val n x y = some (decide (x = y)) := (EV.gt 1048576).up fun n hn x y hx => by
  rw [slices_Equal_impl_Val_impl_Val]
  by_cases hl : x.length = y.length
  · have : ((x.length : Int) != (y.length : Int)) = false := by simp [hl]
    simp only [this, cond_false]
    refine (eq_loop x y hl (fun j k => slices_Equal_impl_Val_impl_Val_L1 n j x y (x.length : Int) (k : Int)) (fun j => by simp only [slices_Equal_impl_Val_impl_Val_L1, lt_cast, Nat.lt_irrefl, decide_false, cond_false]) (fun j k hk hk2 => ?_) x n 0 rfl (by omega) (by omega)).trans (by simp)
    simp only [slices_Equal_impl_Val_impl_Val_L1, lt_cast, decide_eq_true hk, inR_true hk, inR_true hk2, Int.toNat_natCast, getD_at hk, getD_at hk2, cond_true, wrap_succ hk (by omega), val_eq]
    exact eq_step _ _ _
  · have : ((x.length : Int) != (y.length : Int)) = true := by simp; omega
    simp only [this, cond_true]
    congr 1; exact (decide_eq_false fun h => hl (by rw [h])).symm
theorem spec_SameRows_ok : EV fun n => ∀ x y : T_RowS, sm_RowS 1048576 x → spec_SameRows n x y = some (decide (x = y)) := (spec_l03SameVals_ok.and (EV.gt 1048576)).up fun n ⟨h, hn⟩ x y hx => by
  have hlen := hx.1
  rw [spec_SameRows]
  by_cases hl : x.length = y.length
  · have : ((x.length : Int) != (y.length : Int)) = false := by simp [hl]
    simp only [this, cond_false]
    refine (eq_loop x y hl (fun j k => spec_SameRows_L1 n j x y (x.length : Int) (k : Int)) (fun j => by simp only [spec_SameRows_L1, lt_cast, Nat.lt_irrefl, decide_false, cond_false]) (fun j k hk hk2 => ?_) x n 0 rfl (by omega) (by omega)).trans (by simp)
    simp only [spec_SameRows_L1, lt_cast, decide_eq_true hk, inR_true hk, inR_true hk2, Int.toNat_natCast, getD_at hk, getD_at hk2, cond_true, wrap_succ hk (by omega), h x[k] y[k] (hx.2 _ (List.getElem_mem hk)).1, Option.bind_some]
    exact eq_step _ _ _
  · have : ((x.length : Int) != (y.length : Int)) = true := by simp; omega
    simp only [this, cond_true]
    congr 1; exact (decide_eq_false fun h => hl (by rw [h])).symm
theorem impl_SameRows_ok : EV fun n => ∀ x y : T_RowS, sm_RowS 1048576 x → impl_SameRows n x y = some (decide (x = y)) :=
  ((slices_EqualVal_ok.up (q := fun n => ∀ x y : T_ValS, x.length ≤ 1048576 → impl_SameRows_1 n x y = some (decide (x = y))) fun n h x y hx => by simp only [impl_SameRows_1, h x y hx, Option.bind_some]).and (EV.gt 1048576)).up
    (q := fun n => ∀ x y : T_RowS, sm_RowS 1048576 x → slices_EqualFunc_impl_Row_impl_Row_impl_Row_impl_Row__impl_SameRows_1 n x y = some (decide (x = y))) (fun n ⟨h, hn⟩ x y hx => by
  have hlen := hx.1
  rw [slices_EqualFunc_impl_Row_impl_Row_impl_Row_impl_Row__impl_SameRows_1]
  by_cases hl : x.length = y.length
  · have : ((x.length : Int) != (y.length : Int)) = false := by simp [hl]
    simp only [this, cond_false]
    refine (eq_loop x y hl (fun j k => slices_EqualFunc_impl_Row_impl_Row_impl_Row_impl_Row__impl_SameRows_1_L1 n j y x (x.length : Int) (k : Int)) (fun j => by simp only [slices_EqualFunc_impl_Row_impl_Row_impl_Row_impl_Row__impl_SameRows_1_L1, lt_cast, Nat.lt_irrefl, decide_false, cond_false]) (fun j k hk hk2 => ?_) x n 0 rfl (by omega) (by omega)).trans (by simp)
    simp only [slices_EqualFunc_impl_Row_impl_Row_impl_Row_impl_Row__impl_SameRows_1_L1, lt_cast, decide_eq_true hk, inR_true hk, inR_true hk2, Int.toNat_natCast, getD_at hk, getD_at hk2, cond_true, wrap_succ hk (by omega), h x[k] y[k] (hx.2 _ (List.getElem_mem hk)).1, Option.bind_some]
    exact eq_step _ _ _
  · have : ((x.length : Int) != (y.length : Int)) = true := by simp; omega
    simp only [this, cond_true]
    congr 1; exact (decide_eq_false fun h => hl (by rw [h])).symm) |>.up fun n h x y hx => by simp only [impl_SameRows, h x y hx, Option.bind_some]
def cColAt (cs : T_ColS) (name : ByteArray) : Int := idx (fun c => decide (c.1 = name)) cs
theorem spec_ColAt_ok : EV fun n => ∀ (a : ByteArray) (cs : T_ColS) (ks : T_StringS) (s : ByteArray), cs.length ≤ 1048576 → spec_ColAt n a cs ks s = some (cColAt cs s) := (EV.gt 1048576).up fun n hn a cs ks s hl => by
  rw [spec_ColAt]
  refine find_loop (fun c => decide (c.1 = s)) cs (fun j k => spec_ColAt_L1 n j s cs (cs.length : Int) (k : Int)) (fun j => by simp only [spec_ColAt_L1, lt_cast, Nat.lt_irrefl, decide_false, cond_false]) (fun j k hk => ?_) cs n 0 rfl (by omega) (by omega)
  simp only [spec_ColAt_L1, lt_cast, decide_eq_true hk, inR_true hk, Int.toNat_natCast, getD_at hk, cond_true, wrap_succ hk (by omega), text_eq]
  exact bif_step' _ _
theorem impl_ColAt_ok : EV fun n => ∀ (a : ByteArray) (cs : T_ColS) (ks : T_StringS) (s : ByteArray), cs.length ≤ 1048576 → impl_ColAt n a cs ks s = some (idx (fun c => decide (c.1 = s)) cs) :=
  ((EV.true.up (q := fun n => ∀ (x : T_Col) (s : ByteArray), impl_ColAt_1 n x.1 x.2.1 x.2.2.1 x.2.2.2.1 x.2.2.2.2.1 x.2.2.2.2.2.1 x.2.2.2.2.2.2 s = some (decide (x.1 = s))) fun n h x s => by simp only [impl_ColAt_1, text_eq]).and (EV.gt 1048576)).up
    (q := fun n => ∀ (cs : T_ColS) (s : ByteArray), cs.length ≤ 1048576 → slices_IndexFunc_impl_Col_impl_Col__impl_ColAt_1 n cs s = some (idx (fun c => decide (c.1 = s)) cs)) (fun n ⟨h, hn⟩ cs s hl => by
    rw [slices_IndexFunc_impl_Col_impl_Col__impl_ColAt_1]
    refine find_loop (fun c => decide (c.1 = s)) cs (fun j k => slices_IndexFunc_impl_Col_impl_Col__impl_ColAt_1_L1 n j cs s (cs.length : Int) (k : Int)) (fun j => by simp only [slices_IndexFunc_impl_Col_impl_Col__impl_ColAt_1_L1, lt_cast, Nat.lt_irrefl, decide_false, cond_false]) (fun j k hk => ?_) cs n 0 rfl (by omega) (by omega)
    simp only [slices_IndexFunc_impl_Col_impl_Col__impl_ColAt_1_L1, lt_cast, decide_eq_true hk, inR_true hk, Int.toNat_natCast, getD_at hk, cond_true, wrap_succ hk (by omega), h, Option.bind_some]
    exact bif_step' _ _) |>.up fun n h a cs ks s hl => by simp only [impl_ColAt, h cs s hl, Option.bind_some]
def keyStep (cs : T_ColS) (key : ByteArray) (last : Int) : Option Int := if last < cColAt cs key ∧ (cs.getD (cColAt cs key).toNat (E0, (0, (false, (false, null))))).2.2.1 = true then some (cColAt cs key) else none
def cTableOk (x : T_Table) : Bool :=
  cWordOk x.1 && decide (1 ≤ x.2.1.length ∧ x.2.1.length ≤ 8) && decide (1 ≤ x.2.2.length) && allFrom (fun c k => cColOk c && decide (cColAt x.2.1 c.1 = (k : Int))) x.2.1 0 && (runs (keyStep x.2.1) x.2.2 (-1)).isSome
theorem spec_TableOk_ok : EV fun n => ∀ x : T_Table, sm_Table 1048576 x → spec_TableOk n x.1 x.2.1 x.2.2 = some (cTableOk x) := (spec_WordOk_ok.and (spec_ColOk_ok.and (spec_ColAt_ok.and (EV.gt 1048576)))).up fun n ⟨h1, h2, h3, hn⟩ x hs => by
  obtain ⟨a, cs, ks⟩ := x
  obtain ⟨s1, s2, s3⟩ := hs
  have s1 : a.size ≤ 1048576 := s1
  have s2l : cs.length ≤ 1048576 := s2.1
  have s3l : ks.length ≤ 1048576 := s3.1
  have hL2 : spec_TableOk_L2 n n (-1) ks (ks.length : Int) 0 a cs ks = after (runs (keyStep cs) ks (-1)) (some false) fun _ => some true := by
    refine run_loop ks (keyStep cs) (fun j k s => spec_TableOk_L2 n j s ks (ks.length : Int) (k : Int) a cs ks) (fun _ => some true) (some false) (fun s => -1 ≤ s) (fun x hx s s' h h' => ?_) (fun j s _ => by simp only [spec_TableOk_L2, lt_cast, Nat.lt_irrefl, decide_false, cond_false]) (fun j k s hk hs => ?_) ks n 0 (-1) rfl (by omega) (by omega) (by decide)
    · simp only [keyStep] at h'; split at h'
      · obtain rfl := Option.some.inj h'; exact (idx_lt _ _).1
      · cases h'
    · simp only [spec_TableOk_L2, lt_cast, decide_eq_true hk, inR_true hk, Int.toNat_natCast, getD_at hk, cond_true, wrap_succ hk (by omega), h3 _ _ _ _ s2l, Option.bind_some, keyStep]
      obtain ⟨i1, i2⟩ : -1 ≤ cColAt cs ks[k] ∧ cColAt cs ks[k] < (cs.length : Int) := idx_lt _ _
      by_cases hc : cColAt cs ks[k] ≤ s
      · rw [decide_eq_true hc, if_neg (by omega)]; rfl
      · have : inR (cColAt cs ks[k]) cs.length = true := by simp only [inR]; exact decide_eq_true (by omega)
        rw [decide_eq_false hc, this]
        simp only [cond_false, cond_true]
        cases hb : (cs.getD (cColAt cs ks[k]).toNat (E0, (0, (false, (false, null))))).2.2.1
        · rw [show (cs.getD (cColAt cs ks[k]).toNat (⟨#[]⟩, (0, (false, (false, (0, (0, ⟨#[]⟩))))))).2.2.1 = false from hb]; simp [after]
        · rw [show (cs.getD (cColAt cs ks[k]).toNat (⟨#[]⟩, (0, (false, (false, (0, (0, ⟨#[]⟩))))))).2.2.1 = true from hb, if_pos ⟨by omega, rfl⟩]; rfl
  have hL1 : spec_TableOk_L1 n n cs (cs.length : Int) 0 a cs ks = if allFrom (fun c k => cColOk c && decide (cColAt cs c.1 = (k : Int))) cs 0 = true then (after (runs (keyStep cs) ks (-1)) (some false) fun _ => some true) else some false := by
    refine allFrom_loop _ cs (fun j k => spec_TableOk_L1 n j cs (cs.length : Int) (k : Int) a cs ks) _ (fun j => by simp only [spec_TableOk_L1, lt_cast, Nat.lt_irrefl, decide_false, cond_false, hL2]) (fun j k hk => ?_) cs n 0 rfl (by omega) (by omega)
    simp only [spec_TableOk_L1, lt_cast, decide_eq_true hk, inR_true hk, Int.toNat_natCast, getD_at hk, cond_true, wrap_succ hk (by omega), h3 _ _ _ _ s2l, Option.bind_some, h2 cs[k] (s2.2 _ (List.getElem_mem hk)), int_bne]
    by_cases e : cColAt cs cs[k].1 = (k : Int) <;> cases cColOk cs[k] <;> simp [e]
  simp only [spec_TableOk, h1 a s1, Option.bind_some, hL1, cTableOk]
  cases cWordOk a
  · simp
  by_cases c1 : (cs.length : Int) < 1
  · rw [decide_eq_true c1, decide_eq_false (show ¬ (1 ≤ cs.length ∧ cs.length ≤ 8) by omega)]; simp
  by_cases c2 : (8 : Int) < (cs.length : Int)
  · rw [decide_eq_false c1, decide_eq_true c2, decide_eq_false (show ¬ (1 ≤ cs.length ∧ cs.length ≤ 8) by omega)]; simp
  rw [decide_eq_false c1, decide_eq_false c2, decide_eq_true (show (1 ≤ cs.length ∧ cs.length ≤ 8) by omega)]
  by_cases c3 : (ks.length : Int) < 1
  · rw [decide_eq_true c3, decide_eq_false (show ¬ 1 ≤ ks.length by omega)]; simp
  rw [decide_eq_false c3, decide_eq_true (show 1 ≤ ks.length by omega)]
  simp only [Bool.not_true, cond_false, Bool.true_and]
  cases allFrom (fun c k => cColOk c && decide (cColAt cs c.1 = (k : Int))) cs 0
  · simp
  · cases runs (keyStep cs) ks (-1) <;> simp [after]
theorem impl_TableOk_ok : EV fun n => ∀ x : T_Table, sm_Table 1048576 x → impl_TableOk n x.1 x.2.1 x.2.2 = some (cTableOk x) := (impl_WordOk_ok.and (impl_ColOk_ok.and (impl_ColAt_ok.and (within_ok.and (EV.gt 1048576))))).up fun n ⟨h1, h2, h3, h4, hn⟩ x hs => by
  obtain ⟨a, cs, ks⟩ := x
  obtain ⟨s1, s2, s3⟩ := hs
  have s1 : a.size ≤ 1048576 := s1
  have s2l : cs.length ≤ 1048576 := s2.1
  have s3l : ks.length ≤ 1048576 := s3.1
  have h3 : ∀ s, impl_ColAt n a cs ks s = some (cColAt cs s) := fun s => h3 _ _ _ _ s2l
  have hL2 : impl_TableOk_L2 n n (-1) ks (ks.length : Int) 0 a cs ks = after (runs (keyStep cs) ks (-1)) (some false) fun _ => some (cWordOk a && decide (1 ≤ cs.length ∧ cs.length ≤ 8) && decide (1 ≤ ks.length)) := by
    refine run_loop ks (keyStep cs) (fun j k s => impl_TableOk_L2 n j s ks (ks.length : Int) (k : Int) a cs ks) (fun _ => some (cWordOk a && decide (1 ≤ cs.length ∧ cs.length ≤ 8) && decide (1 ≤ ks.length))) (some false) (fun s => -1 ≤ s) (fun x hx s s' h h' => ?_) (fun j s _ => ?_) (fun j k s hk hs => ?_) ks n 0 (-1) rfl (by omega) (by omega) (by decide)
    · simp only [keyStep] at h'; split at h'
      · obtain rfl := Option.some.inj h'; exact (idx_lt _ _).1
      · cases h'
    · simp only [impl_TableOk_L2, lt_cast, Nat.lt_irrefl, decide_false, cond_false, h1 a s1, h4, Option.bind_some]
      rw [show decide ((1 : Int) ≤ (cs.length : Int) ∧ (cs.length : Int) ≤ 8) = decide (1 ≤ cs.length ∧ cs.length ≤ 8) from decide_eq_decide.mpr (by omega), show decide ((0 : Int) < (ks.length : Int)) = decide (1 ≤ ks.length) from decide_eq_decide.mpr (by omega)]
      cases cWordOk a <;> cases decide (1 ≤ cs.length ∧ cs.length ≤ 8) <;> simp
    · simp only [impl_TableOk_L2, lt_cast, decide_eq_true hk, inR_true hk, Int.toNat_natCast, getD_at hk, cond_true, wrap_succ hk (by omega), h3, Option.bind_some, keyStep]
      obtain ⟨i1, i2⟩ : -1 ≤ cColAt cs ks[k] ∧ cColAt cs ks[k] < (cs.length : Int) := idx_lt _ _
      by_cases hc : cColAt cs ks[k] ≤ s
      · rw [decide_eq_true hc, if_neg (by omega)]; rfl
      · have : inR (cColAt cs ks[k]) cs.length = true := by simp only [inR]; exact decide_eq_true (by omega)
        rw [decide_eq_false hc, this]
        simp only [cond_false, cond_true]
        cases hb : (cs.getD (cColAt cs ks[k]).toNat (E0, (0, (false, (false, null))))).2.2.1
        · rw [show (cs.getD (cColAt cs ks[k]).toNat (⟨#[]⟩, (0, (false, (false, (0, (0, ⟨#[]⟩))))))).2.2.1 = false from hb]; simp [after]
        · rw [show (cs.getD (cColAt cs ks[k]).toNat (⟨#[]⟩, (0, (false, (false, (0, (0, ⟨#[]⟩))))))).2.2.1 = true from hb, if_pos ⟨by omega, rfl⟩]; rfl
  simp only [impl_TableOk]
  refine (allFrom_loop (fun c k => cColOk c && decide (cColAt cs c.1 = (k : Int))) cs (fun j k => impl_TableOk_L1 n j cs (cs.length : Int) (k : Int) a cs ks) _ (fun j => by simp only [impl_TableOk_L1, lt_cast, Nat.lt_irrefl, decide_false, cond_false]; exact hL2) (fun j k hk => ?_) cs n 0 rfl (by omega) (by omega)).trans ?_
  · simp only [impl_TableOk_L1, lt_cast, decide_eq_true hk, inR_true hk, Int.toNat_natCast, getD_at hk, cond_true, wrap_succ hk (by omega), h3, Option.bind_some, h2 cs[k] (s2.2 _ (List.getElem_mem hk)), int_bne]
    by_cases e : cColAt cs cs[k].1 = (k : Int) <;> cases cColOk cs[k] <;> simp [e]
  · simp only [cTableOk]
    cases allFrom (fun c k => cColOk c && decide (cColAt cs c.1 = (k : Int))) cs 0
    · simp
    · cases runs (keyStep cs) ks (-1) <;> simp [after]
def cCatStep (l : T_TableS) (t : T_Table) (k : Nat) : Bool := cTableOk t && (decide (k = 0) || Op.bytesLess (l.getD (k - 1) (E0, ([], []))).1.toList t.1.toList)
def cCatOk (l : T_TableS) : Bool := decide (l.length ≤ 6) && allFrom (cCatStep l) l 0
theorem pred_cast {k : Nat} (h : 0 < k) (h2 : k ≤ 1048576) : IntKind.wrap .i64 ((k : Int) - (1 : Int)) = ((k - 1 : Nat) : Int) := by rw [wrap64] <;> omega
theorem spec_CatOk_ok : EV fun n => ∀ l : T_TableS, sm_TableS 1048576 l → spec_CatOk n l = some (cCatOk l) := (spec_TableOk_ok.and (EV.gt 1048576)).up fun n ⟨h, hn⟩ l hs => by
  have hl := hs.1
  have key : spec_CatOk_L1 n n l (l.length : Int) 0 l = if allFrom (cCatStep l) l 0 = true then some true else some false := by
    refine allFrom_loop (cCatStep l) l (fun j k => spec_CatOk_L1 n j l (l.length : Int) (k : Int) l) _ (fun j => by simp only [spec_CatOk_L1, lt_cast, Nat.lt_irrefl, decide_false, cond_false]) (fun j k hk => ?_) l n 0 rfl (by omega) (by omega)
    simp only [spec_CatOk_L1, lt_cast, decide_eq_true hk, inR_true hk, Int.toNat_natCast, getD_at hk, cond_true, wrap_succ hk (by omega), h l[k] (hs.2 _ (List.getElem_mem hk)), Option.bind_some]
    by_cases ht : cTableOk l[k] = true
    · by_cases h0 : k = 0
      · subst h0
        have : cCatStep l l[0] 0 = true := by simp [cCatStep, ht]
        simp [ht, this]
      · have e : cCatStep l l[k] k = Op.bytesLess (l.getD (k - 1) (E0, ([], []))).1.toList l[k].1.toList := by simp [cCatStep, ht, h0]
        rw [decide_eq_true (show (0 : Int) < (k : Int) by omega), pred_cast (by omega) (by omega), inR_true (show k - 1 < l.length by omega), Int.toNat_natCast, ht, e]
        simp only [cond_true, Bool.not_true, cond_false]
        exact bif_step _ _
    · have : cCatStep l l[k] k = false := by simp [cCatStep, ht]
      simp [ht, this]
  simp only [spec_CatOk, cCatOk, key]
  by_cases c : (6 : Int) < (l.length : Int)
  · rw [decide_eq_true c, decide_eq_false (show ¬ l.length ≤ 6 by omega)]; rfl
  · rw [decide_eq_false c, decide_eq_true (show l.length ≤ 6 by omega)]
    cases allFrom (cCatStep l) l 0 <;> rfl
theorem impl_CatOk_ok : EV fun n => ∀ l : T_TableS, sm_TableS 1048576 l → impl_CatOk n l = some (cCatOk l) := (impl_TableOk_ok.and (EV.gt 1048576)).up fun n ⟨h, hn⟩ l hs => by
  have hl := hs.1
  simp only [impl_CatOk]
  refine (allFrom_loop (cCatStep l) l (fun j k => impl_CatOk_L1 n j l (l.length : Int) (k : Int) l) (some (decide ((l.length : Int) ≤ 6))) (fun j => by simp only [impl_CatOk_L1, lt_cast, Nat.lt_irrefl, decide_false, cond_false]) (fun j k hk => ?_) l n 0 rfl (by omega) (by omega)).trans ?_
  · simp only [impl_CatOk_L1, lt_cast, decide_eq_true hk, inR_true hk, Int.toNat_natCast, getD_at hk, cond_true, wrap_succ hk (by omega), h l[k] (hs.2 _ (List.getElem_mem hk)), Option.bind_some]
    by_cases ht : cTableOk l[k] = true
    · by_cases h0 : k = 0
      · subst h0
        have : cCatStep l l[0] 0 = true := by simp [cCatStep, ht]
        simp [ht, this]
      · have e : cCatStep l l[k] k = Op.bytesLess (l.getD (k - 1) (E0, ([], []))).1.toList l[k].1.toList := by simp [cCatStep, ht, h0]
        rw [decide_eq_true (show (0 : Int) < (k : Int) by omega), pred_cast (by omega) (by omega), inR_true (show k - 1 < l.length by omega), Int.toNat_natCast, ht, e]
        simp only [cond_true, Bool.not_true, cond_false]
        exact bif_step _ _
    · have : cCatStep l l[k] k = false := by simp [cCatStep, ht]
      simp [ht, this]
  · simp only [cCatOk]
    rw [show decide ((l.length : Int) ≤ 6) = decide (l.length ≤ 6) from decide_eq_decide.mpr (by omega)]
    cases allFrom (cCatStep l) l 0 <;> simp
theorem col_eq (x y : T_Col) : ((x.1.toList == y.1.toList) && ((x.2.1 == y.2.1) && ((x.2.2.1 == y.2.2.1) && ((x.2.2.2.1 == y.2.2.2.1) && ((x.2.2.2.2.1 == y.2.2.2.2.1) && ((x.2.2.2.2.2.1 == y.2.2.2.2.2.1) && ((x.2.2.2.2.2.2.toList == y.2.2.2.2.2.2.toList) && true))))))) = decide (x = y) := by
  rw [val_eq x.2.2.2.2 y.2.2.2.2]
  obtain ⟨a, b, c, d, e⟩ := x; obtain ⟨a', b', c', d', e'⟩ := y
  simp only [text_eq, int_beq, Bool.beq_eq_decide_eq]
  by_cases h1 : a = a' <;> by_cases h2 : b = b' <;> by_cases h3 : c = c' <;> by_cases h4 : d = d' <;> by_cases h5 : e = e' <;> simp [h1, h2, h3, h4, h5, text_eq']
theorem slices_EqualCol_ok : EV fun n => ∀ x y : T_ColS, x.length ≤ 1048576 → slices_Equal_impl_Col_impl_Col n x y = some (decide (x = y)) := (EV.gt 1048576).up fun n hn x y hx => by
  rw [slices_Equal_impl_Col_impl_Col]
  by_cases hl : x.length = y.length
  · have : ((x.length : Int) != (y.length : Int)) = false := by simp [hl]
    simp only [this, cond_false]
    refine (eq_loop x y hl (fun j k => slices_Equal_impl_Col_impl_Col_L1 n j x y (x.length : Int) (k : Int)) (fun j => by simp only [slices_Equal_impl_Col_impl_Col_L1, lt_cast, Nat.lt_irrefl, decide_false, cond_false]) (fun j k hk hk2 => ?_) x n 0 rfl (by omega) (by omega)).trans (by simp)
    simp only [slices_Equal_impl_Col_impl_Col_L1, lt_cast, decide_eq_true hk, inR_true hk, inR_true hk2, Int.toNat_natCast, getD_at hk, getD_at hk2, cond_true, wrap_succ hk (by omega), col_eq]
    exact eq_step _ _ _
  · have : ((x.length : Int) != (y.length : Int)) = true := by simp; omega
    simp only [this, cond_true]
    congr 1; exact (decide_eq_false fun h => hl (by rw [h])).symm
theorem slices_EqualStr_ok : EV fun n => ∀ x y : List ByteArray, x.length ≤ 1048576 → slices_Equal_string_string n x y = some (decide (x = y)) := (EV.gt 1048576).up fun n hn x y hx => by
  rw [slices_Equal_string_string]
  by_cases hl : x.length = y.length
  · have : ((x.length : Int) != (y.length : Int)) = false := by simp [hl]
    simp only [this, cond_false]
    refine (eq_loop x y hl (fun j k => slices_Equal_string_string_L1 n j x y (x.length : Int) (k : Int)) (fun j => by simp only [slices_Equal_string_string_L1, lt_cast, Nat.lt_irrefl, decide_false, cond_false]) (fun j k hk hk2 => ?_) x n 0 rfl (by omega) (by omega)).trans (by simp)
    simp only [slices_Equal_string_string_L1, lt_cast, decide_eq_true hk, inR_true hk, inR_true hk2, Int.toNat_natCast, getD_at hk, getD_at hk2, cond_true, wrap_succ hk (by omega), text_eq]
    exact eq_step _ _ _
  · have : ((x.length : Int) != (y.length : Int)) = true := by simp; omega
    simp only [this, cond_true]
    congr 1; exact (decide_eq_false fun h => hl (by rw [h])).symm
theorem impl_equalTables_ok : EV fun n => ∀ x y : T_Table, sm_Table 1048576 x → impl_equalTables n x.1 x.2.1 x.2.2 y.1 y.2.1 y.2.2 = some (decide (x = y)) := (slices_EqualCol_ok.and slices_EqualStr_ok).up fun n ⟨h1, h2⟩ x y hs => by
  obtain ⟨a, b, c⟩ := x; obtain ⟨a', b', c'⟩ := y
  simp only [impl_equalTables, h1 b b' hs.2.1.1, h2 c c' hs.2.2.1, text_eq, Option.bind_some]
  by_cases e1 : a = a' <;> by_cases e2 : b = b' <;> by_cases e3 : c = c' <;> simp [e1, e2, e3]
theorem spec_SameTable_ok : EV fun n => ∀ x y : T_Table, sm_Table 1048576 x → sm_Table 1048576 y → spec_SameTable n x.1 x.2.1 x.2.2 y.1 y.2.1 y.2.2 = some (cTableOk x && cTableOk y && decide (x = y)) := (spec_TableOk_ok.and (EV.gt 1048576)).up fun n ⟨h1, hn⟩ x y hx hy => by
  simp only [spec_SameTable, h1 x hx, h1 y hy, Option.bind_some]
  obtain ⟨a, b, c⟩ := x; obtain ⟨a', b', c'⟩ := y
  have lb : b.length ≤ 1048576 := hx.2.1.1
  have lc : c.length ≤ 1048576 := hx.2.2.1
  cases cTableOk (a, b, c)
  · simp
  cases cTableOk (a', b', c')
  · simp
  simp only [text_eq, int_bne, Bool.not_true, cond_false, Bool.true_and]
  by_cases e1 : a = a'
  · subst e1
    by_cases l2 : b.length = b'.length
    · by_cases l3 : c.length = c'.length
      · have k2 : spec_SameTable_L2 n n (c.length : Int) 0 a b c a b' c' = some (decide (c = c')) := by
          refine (eq_loop c c' l3 (fun j k => spec_SameTable_L2 n j (c.length : Int) (k : Int) a b c a b' c') (fun j => by simp only [spec_SameTable_L2, lt_cast, Nat.lt_irrefl, decide_false, cond_false]) (fun j k hk hk2 => ?_) c n 0 rfl (by omega) (by omega)).trans (by simp)
          simp only [spec_SameTable_L2, lt_cast, decide_eq_true hk, inR_true hk, inR_true hk2, Int.toNat_natCast, getD_at hk, getD_at hk2, cond_true, wrap_succ hk (by omega), text_eq]
          exact eq_step _ _ _
        have k1 : spec_SameTable_L1 n n (b.length : Int) 0 a b c a b' c' = if b = b' then some (decide (c = c')) else some false := by
          have : ∀ (t : T_ColS) (j k : Nat), b.drop k = t → k ≤ b.length → t.length < j → spec_SameTable_L1 n j (b.length : Int) (k : Int) a b c a b' c' = if t = b'.drop k then some (decide (c = c')) else some false := by
            intro t
            induction t with
            | nil =>
              intro j k hd hk hj
              obtain ⟨j, rfl⟩ : ∃ i, j = i + 1 := ⟨j - 1, by simp at hj; omega⟩
              have : k = b.length := by
                rcases Nat.lt_or_ge k b.length with h' | h'
                · rw [List.drop_eq_getElem_cons h'] at hd; cases hd
                · omega
              subst this
              simp only [spec_SameTable_L1, lt_cast, Nat.lt_irrefl, decide_false, cond_false, k2]
              rw [List.drop_eq_nil_of_le (by omega), if_pos rfl]
            | cons x t ih =>
              intro j k hd hk hj
              obtain ⟨j, rfl⟩ : ∃ i, j = i + 1 := ⟨j - 1, by simp at hj; omega⟩
              obtain ⟨h2, h3, h4⟩ := drop_cons hd x
              have hx : b[k] = x := by rw [getD_at h2] at h3; exact h3
              have hk2 : k < b'.length := by omega
              simp only [spec_SameTable_L1, lt_cast, decide_eq_true h2, inR_true h2, inR_true hk2, Int.toNat_natCast, getD_at h2, getD_at hk2, cond_true, wrap_succ h2 (by omega), col_eq]
              rw [ih j (k + 1) h4 (by omega) (by simp at hj; omega), List.drop_eq_getElem_cons hk2, hx]
              by_cases e : x = b'[k]
              · simp only [e, decide_true, Bool.not_true, cond_false, List.cons.injEq, true_and]
              · rw [if_neg (fun h => e (List.cons.inj h).1)]; simp [e]
          have := this b n 0 rfl (by omega) (by omega)
          simpa using this
        have l2' : ((b.length : Int) = (b'.length : Int)) = True := eq_true (by omega)
        have l3' : ((c.length : Int) = (c'.length : Int)) = True := eq_true (by omega)
        simp only [l2', l3', decide_true, Bool.not_true, cond_false, k1]
        by_cases e2 : b = b' <;> by_cases e3 : c = c' <;> simp [e2, e3]
      · have : ¬ c = c' := fun h => l3 (by rw [h])
        have l3' : ¬ (c.length : Int) = (c'.length : Int) := by omega
        simp [l2, l3', this]
    · have : ¬ b = b' := fun h => l2 (by rw [h])
      have l2' : ¬ (b.length : Int) = (b'.length : Int) := by omega
      simp [l2', this]
  · simp [e1]
def fitsS (c : T_Col) (v : T_Val) : Bool := cValOk v.1 v.2.1 v.2.2 && (if v.1 = 0 then !c.2.2.1 else decide (v.1 = c.2.1))
def CZ : T_Col := (E0, (0, (false, (false, null))))
def cRowIn (cs : T_ColS) (r : T_ValS) : Bool := decide (r.length = cs.length) && allFrom (fun c k => fitsS c (r.getD k null)) cs 0
def cKeyOf (cs : T_ColS) (ks : T_StringS) (r : T_ValS) : T_ValS := ks.map fun key => r.getD (cColAt cs key).toNat null
theorem runs_keys {cs : T_ColS} : ∀ {ks : T_StringS} {last : Int}, (runs (keyStep cs) ks last).isSome = true → -1 ≤ last → ∀ key ∈ ks, 0 ≤ cColAt cs key ∧ (cs.getD (cColAt cs key).toNat CZ).2.2.1 = true
  | [], _, _, _, key, h => by simp at h
  | x :: t, last, h, hl, key, hk => by
    simp only [runs, keyStep] at h
    split at h
    · rename_i hc
      rcases List.mem_cons.mp hk with rfl | hk
      · exact ⟨by omega, hc.2⟩
      · exact runs_keys h (idx_lt _ _).1 key hk
    · simp at h
theorem table_facts {x : T_Table} (h : cTableOk x = true) : (∀ key ∈ x.2.2, 0 ≤ cColAt x.2.1 key ∧ cColAt x.2.1 key < (x.2.1.length : Int) ∧ (x.2.1.getD (cColAt x.2.1 key).toNat CZ).2.2.1 = true) ∧ (∀ c ∈ x.2.1, cColOk c = true) ∧ x.2.1.length ≤ 8 ∧ 1 ≤ x.2.1.length := by
  simp only [cTableOk, Bool.and_eq_true, decide_eq_true_eq] at h
  obtain ⟨⟨⟨⟨h1, h2⟩, h3⟩, h4⟩, h5⟩ := h
  refine ⟨fun key hk => ?_, fun c hc => ?_, h2.2, h2.1⟩
  · obtain ⟨k1, k2⟩ := runs_keys h5 (by omega) key hk
    exact ⟨k1, (idx_lt _ _).2, k2⟩
  · obtain ⟨i, hi, rfl⟩ := List.mem_iff_getElem.mp hc
    have := (allFrom_iff _ _ _).mp h4 i hi
    simp only [Bool.and_eq_true] at this
    exact this.1
theorem col_ty {c : T_Col} (h : cColOk c = true) : 1 ≤ c.2.1 ∧ c.2.1 ≤ 3 := by
  simp only [cColOk, Bool.and_eq_true, decide_eq_true_eq] at h
  exact h.1.2
theorem keyOf_len (cs : T_ColS) (ks : T_StringS) (r : T_ValS) : (cKeyOf cs ks r).length = ks.length := by simp [cKeyOf]
theorem getD_null {r : T_ValS} {k : Nat} : r.getD k (0, (0, ⟨#[]⟩)) = r.getD k null := rfl
theorem inR_int {i : Int} {n : Nat} (h1 : 0 ≤ i) (h2 : i < (n : Int)) : inR i n = true := by simp only [inR]; exact decide_eq_true ⟨h1, h2⟩
theorem spec_l03Fits_ok : EV fun n => ∀ (c : T_Col) (v : T_Val), spec_l03Fits n c.1 c.2.1 c.2.2.1 c.2.2.2.1 c.2.2.2.2.1 c.2.2.2.2.2.1 c.2.2.2.2.2.2 v.1 v.2.1 v.2.2 = some (fitsS c v) := spec_ValOk_ok.up fun n h c v => by
  simp only [spec_l03Fits, h, Option.bind_some, fitsS, int_beq]
  by_cases h0 : v.1 = 0 <;> cases cValOk v.1 v.2.1 v.2.2 <;> simp [h0]
theorem impl_stands_ok : EV fun n => ∀ (c : T_Col) (v : T_Val), c.2.1 ≠ 0 → impl_stands n c.1 c.2.1 c.2.2.1 c.2.2.2.1 c.2.2.2.2.1 c.2.2.2.2.2.1 c.2.2.2.2.2.2 v.1 v.2.1 v.2.2 = some (fitsS c v) := impl_ValOk_ok.up fun n h c v hc => by
  simp only [impl_stands, h, Option.bind_some, fitsS, int_beq]
  cases cValOk v.1 v.2.1 v.2.2
  · simp
  · by_cases h0 : v.1 = 0
    · have : ¬ (0 : Int) = c.2.1 := fun e => hc e.symm
      simp [h0, this]
    · by_cases h1 : v.1 = c.2.1 <;> simp [h0, h1]
      exact .inl hc
theorem spec_RowOk_ok : EV fun n => ∀ (x : T_Table) (r : T_ValS), sm_Table 1048576 x → spec_RowOk n x.1 x.2.1 x.2.2 r = some (cTableOk x && cRowIn x.2.1 r) := (spec_TableOk_ok.and (spec_l03Fits_ok.and (EV.gt 1048576))).up fun n ⟨h1, h2, hn⟩ x r hs => by
  have lc := hs.2.1.1
  simp only [spec_RowOk, h1 x hs, Option.bind_some, int_bne, cRowIn]
  cases cTableOk x
  · simp
  by_cases hl : r.length = x.2.1.length
  · have hl' : ((r.length : Int) = (x.2.1.length : Int)) = True := eq_true (by omega)
    simp only [Bool.not_true, cond_false, hl', decide_true, hl, Bool.true_and]
    refine (allFrom_loop (fun c k => fitsS c (r.getD k null)) x.2.1 (fun j k => spec_RowOk_L1 n j x.2.1 (x.2.1.length : Int) (k : Int) r) (some true) (fun j => by simp only [spec_RowOk_L1, lt_cast, Nat.lt_irrefl, decide_false, cond_false]) (fun j k hk => ?_) x.2.1 n 0 rfl (by omega) (by omega)).trans ?_
    · have hk2 : k < r.length := by omega
      simp only [spec_RowOk_L1, lt_cast, decide_eq_true hk, inR_true hk, inR_true hk2, Int.toNat_natCast, getD_at hk, cond_true, wrap_succ hk (by omega), h2, Option.bind_some, getD_null]
      exact bif_step _ _
    · cases allFrom (fun c k => fitsS c (r.getD k null)) x.2.1 0 <;> rfl
  · have hl' : ¬ (r.length : Int) = (x.2.1.length : Int) := by omega
    simp [hl, hl']
theorem impl_rowOk_ok : EV fun n => ∀ (x : T_Table) (r : T_ValS), sm_Table 1048576 x → cTableOk x = true → impl_rowOk n x.1 x.2.1 x.2.2 r = some (cRowIn x.2.1 r) := (impl_stands_ok.and (EV.gt 1048576)).up fun n ⟨h2, hn⟩ x r hs ht => by
  have lc := hs.2.1.1
  obtain ⟨_, hcol, _⟩ := table_facts ht
  simp only [impl_rowOk, int_bne, cRowIn]
  by_cases hl : r.length = x.2.1.length
  · have hl' : ((r.length : Int) = (x.2.1.length : Int)) = True := eq_true (by omega)
    simp only [Bool.not_true, cond_false, hl', decide_true, hl, Bool.true_and]
    refine (allFrom_loop (fun v k => fitsS (x.2.1.getD k CZ) v) r (fun j k => impl_rowOk_L1 n j r (x.2.1.length : Int) (k : Int) x.1 x.2.1 x.2.2) (some true) (fun j => by rw [hl]; simp only [impl_rowOk_L1, lt_cast, Nat.lt_irrefl, decide_false, cond_false]) (fun j k hk => ?_) r n 0 rfl (by omega) (by omega)).trans ?_
    · have hk2 : k < x.2.1.length := by omega
      simp only [impl_rowOk_L1, lt_cast, decide_eq_true hk2, inR_true hk, inR_true hk2, Int.toNat_natCast, getD_at hk, getD_at hk2, cond_true, wrap_succ hk (by omega)]
      rw [h2 x.2.1[k] r[k] (by have := col_ty (hcol _ (List.getElem_mem hk2)); omega)]
      exact bif_step _ _
    · have : allFrom (fun v k => fitsS (x.2.1.getD k CZ) v) r 0 = allFrom (fun c k => fitsS c (r.getD k null)) x.2.1 0 := by
        rw [Bool.eq_iff_iff, allFrom_iff, allFrom_iff]
        constructor
        · intro h i hi
          have := h i (by omega)
          rw [Nat.zero_add, getD_at hi] at this
          rw [Nat.zero_add, getD_at (show i < r.length by omega)]; exact this
        · intro h i hi
          have := h i (by omega)
          rw [Nat.zero_add, getD_at hi] at this
          rw [Nat.zero_add, getD_at (show i < x.2.1.length by omega)]; exact this
      rw [this]
      cases allFrom (fun c k => fitsS c (r.getD k null)) x.2.1 0 <;> rfl
  · have hl' : ¬ (r.length : Int) = (x.2.1.length : Int) := by omega
    simp [hl, hl']
theorem spec_l03Key_ok : EV fun n => ∀ (x : T_Table) (r : T_ValS), sm_Table 1048576 x → cTableOk x = true → r.length = x.2.1.length → spec_l03Key n x.1 x.2.1 x.2.2 r = some (cKeyOf x.2.1 x.2.2 r) := (spec_ColAt_ok.and (EV.gt 1048576)).up fun n ⟨h1, hn⟩ x r hs ht hr => by
  have lk := hs.2.2.1
  obtain ⟨hkey, _⟩ := table_facts ht
  rw [spec_l03Key]
  refine (map_loop x.2.2 (fun key => r.getD (cColAt x.2.1 key).toNat null) (fun j k s => spec_l03Key_L1 n j x.2.2 (x.2.2.length : Int) (k : Int) x.1 x.2.1 x.2.2 r s) (fun j s => by simp only [spec_l03Key_L1, lt_cast, Nat.lt_irrefl, decide_false, cond_false]) (fun j k s hk hsl => ?_) x.2.2 n 0 [] rfl (by omega) (by omega) rfl).trans (by simp [cKeyOf])
  obtain ⟨k1, k2, k3⟩ := hkey _ (List.getElem_mem hk)
  have hroom : room (s.length + 1) 32 = true := by simp [room]; omega
  simp only [spec_l03Key_L1, lt_cast, decide_eq_true hk, inR_true hk, Int.toNat_natCast, getD_at hk, cond_true, wrap_succ hk (by omega), h1 _ _ _ _ hs.2.1.1, Option.bind_some, getD_null, inR_int k1 (show cColAt x.2.1 x.2.2[k] < (r.length : Int) by omega), List.length_cons, List.length_nil, Nat.zero_add, hroom]
theorem impl_keyOf_ok : EV fun n => ∀ (x : T_Table) (r : T_ValS), sm_Table 1048576 x → cTableOk x = true → r.length = x.2.1.length → impl_keyOf n x.1 x.2.1 x.2.2 r = some (cKeyOf x.2.1 x.2.2 r) := (impl_ColAt_ok.and (EV.gt 1048576)).up fun n ⟨h1, hn⟩ x r hs ht hr => by
  have lk := hs.2.2.1
  have h1 : ∀ s, impl_ColAt n x.1 x.2.1 x.2.2 s = some (cColAt x.2.1 s) := fun s => h1 _ _ _ _ hs.2.1.1
  obtain ⟨hkey, _⟩ := table_facts ht
  rw [impl_keyOf]
  refine (map_loop x.2.2 (fun key => r.getD (cColAt x.2.1 key).toNat null) (fun j k s => impl_keyOf_L1 n j x.2.2 (x.2.2.length : Int) (k : Int) x.1 x.2.1 x.2.2 r s) (fun j s => by simp only [impl_keyOf_L1, lt_cast, Nat.lt_irrefl, decide_false, cond_false]) (fun j k s hk hsl => ?_) x.2.2 n 0 [] rfl (by omega) (by omega) rfl).trans (by simp [cKeyOf])
  obtain ⟨k1, k2, k3⟩ := hkey _ (List.getElem_mem hk)
  have hroom : room (s.length + 1) 32 = true := by simp [room]; omega
  simp only [impl_keyOf_L1, lt_cast, decide_eq_true hk, inR_true hk, Int.toNat_natCast, getD_at hk, cond_true, wrap_succ hk (by omega), h1, Option.bind_some, getD_null, inR_int k1 (show cColAt x.2.1 x.2.2[k] < (r.length : Int) by omega), List.length_cons, List.length_nil, Nat.zero_add, hroom]
def cRowsStep (x : T_Table) (l : T_RowS) (r : T_Row) (k : Nat) : Bool := cRowIn x.2.1 r && (decide (k = 0) || cKeyLess (cKeyOf x.2.1 x.2.2 (l.getD (k - 1) [])) (cKeyOf x.2.1 x.2.2 r))
def cRowsOk (x : T_Table) (l : T_RowS) : Bool := cTableOk x && decide (l.length ≤ 60) && allFrom (cRowsStep x l) l 0
theorem rowIn_len {cs : T_ColS} {r : T_ValS} (h : cRowIn cs r = true) : r.length = cs.length := by
  simp only [cRowIn, Bool.and_eq_true, decide_eq_true_eq] at h; exact h.1
theorem spec_RowsOk_ok : EV fun n => ∀ (x : T_Table) (l : T_RowS), sm_Table 1048576 x → l.length ≤ 1048576 → spec_RowsOk n x.1 x.2.1 x.2.2 l = some (cRowsOk x l) := (spec_TableOk_ok.and (spec_RowOk_ok.and (spec_l03Key_ok.and (spec_KeyLess_ok.and (EV.gt 1048576))))).up fun n ⟨h1, h2, h3, h4, hn⟩ x l hs hl => by
  simp only [spec_RowsOk, h1 x hs, Option.bind_some, cRowsOk]
  by_cases ht : cTableOk x = true
  · simp only [ht, Bool.not_true, cond_false, Bool.true_and]
    by_cases c : (60 : Int) < (l.length : Int)
    · rw [decide_eq_true c, decide_eq_false (show ¬ l.length ≤ 60 by omega)]; rfl
    · rw [decide_eq_false c, decide_eq_true (show l.length ≤ 60 by omega)]
      simp only [cond_false, Bool.true_and]
      refine (allFrom_loopQ (cRowsStep x l) (fun k => ∀ i, i < k → ∀ h : i < l.length, cRowIn x.2.1 l[i] = true) l (fun j k => spec_RowsOk_L1 n j l l (l.length : Int) (k : Int) x.1 x.2.1 x.2.2) (some true) (fun j => by simp only [spec_RowsOk_L1, lt_cast, Nat.lt_irrefl, decide_false, cond_false]) (fun k hk hq hp i hi h => ?_) (fun j k hk hq => ?_) l n 0 rfl (by omega) (by omega) (fun i hi => by omega)).trans ?_
      · by_cases e : i < k
        · exact hq i e h
        · obtain rfl : i = k := by omega
          simp only [cRowsStep, Bool.and_eq_true] at hp
          exact hp.1
      · simp only [spec_RowsOk_L1, lt_cast, decide_eq_true hk, inR_true hk, Int.toNat_natCast, getD_at hk, cond_true, wrap_succ hk (by omega), h2 x l[k] hs, ht, Bool.true_and, Option.bind_some]
        by_cases hr : cRowIn x.2.1 l[k] = true
        · by_cases h0 : k = 0
          · subst h0
            have : cRowsStep x l l[0] 0 = true := by simp [cRowsStep, hr]
            simp [hr, this]
          · have hk1 : k - 1 < l.length := by omega
            have e : cRowsStep x l l[k] k = cKeyLess (cKeyOf x.2.1 x.2.2 l[k - 1]) (cKeyOf x.2.1 x.2.2 l[k]) := by simp only [cRowsStep, hr, decide_eq_false h0, Bool.true_and, Bool.false_or, getD_at hk1]
            have hprev := hq (k - 1) (by omega) hk1
            rw [decide_eq_true (show (0 : Int) < (k : Int) by omega), pred_cast (by omega) (by omega), inR_true hk1, Int.toNat_natCast, hr, e, getD_at hk1, h3 x _ hs ht (rowIn_len hprev), h3 x _ hs ht (rowIn_len hr)]
            simp only [cond_true, Bool.not_true, cond_false, Option.bind_some]
            rw [h4 _ _ (by rw [keyOf_len]; exact hs.2.2.1)]
            exact bif_step _ _
        · have : cRowsStep x l l[k] k = false := by simp [cRowsStep, hr]
          simp [hr, this]
      · cases allFrom (cRowsStep x l) l 0 <;> rfl
  · simp [ht]
theorem impl_RowsOk_ok : EV fun n => ∀ (x : T_Table) (l : T_RowS), sm_Table 1048576 x → l.length ≤ 1048576 → impl_RowsOk n x.1 x.2.1 x.2.2 l = some (cRowsOk x l) := (impl_TableOk_ok.and (impl_rowOk_ok.and (impl_keyOf_ok.and (impl_KeyLess_ok.and (EV.gt 1048576))))).up fun n ⟨h1, h2, h3, h4, hn⟩ x l hs hl => by
  simp only [impl_RowsOk, h1 x hs, Option.bind_some, cRowsOk]
  by_cases ht : cTableOk x = true
  · simp only [ht, Bool.not_true, cond_false, Bool.true_and]
    by_cases c : (60 : Int) < (l.length : Int)
    · rw [decide_eq_true c, decide_eq_false (show ¬ l.length ≤ 60 by omega)]; rfl
    · rw [decide_eq_false c, decide_eq_true (show l.length ≤ 60 by omega)]
      simp only [cond_false, Bool.true_and]
      refine (allFrom_loopQ (cRowsStep x l) (fun k => ∀ i, i < k → ∀ h : i < l.length, cRowIn x.2.1 l[i] = true) l (fun j k => impl_RowsOk_L1 n j l l (l.length : Int) (k : Int) x.1 x.2.1 x.2.2) (some true) (fun j => by simp only [impl_RowsOk_L1, lt_cast, Nat.lt_irrefl, decide_false, cond_false]) (fun k hk hq hp i hi h => ?_) (fun j k hk hq => ?_) l n 0 rfl (by omega) (by omega) (fun i hi => by omega)).trans ?_
      · by_cases e : i < k
        · exact hq i e h
        · obtain rfl : i = k := by omega
          simp only [cRowsStep, Bool.and_eq_true] at hp
          exact hp.1
      · simp only [impl_RowsOk_L1, lt_cast, decide_eq_true hk, inR_true hk, Int.toNat_natCast, getD_at hk, cond_true, wrap_succ hk (by omega), h2 x l[k] hs ht, Option.bind_some]
        by_cases hr : cRowIn x.2.1 l[k] = true
        · by_cases h0 : k = 0
          · subst h0
            have : cRowsStep x l l[0] 0 = true := by simp [cRowsStep, hr]
            simp [hr, this]
          · have hk1 : k - 1 < l.length := by omega
            have e : cRowsStep x l l[k] k = cKeyLess (cKeyOf x.2.1 x.2.2 l[k - 1]) (cKeyOf x.2.1 x.2.2 l[k]) := by simp only [cRowsStep, hr, decide_eq_false h0, Bool.true_and, Bool.false_or, getD_at hk1]
            have hprev := hq (k - 1) (by omega) hk1
            rw [decide_eq_true (show (0 : Int) < (k : Int) by omega), pred_cast (by omega) (by omega), inR_true hk1, Int.toNat_natCast, hr, e, getD_at hk1, h3 x _ hs ht (rowIn_len hprev), h3 x _ hs ht (rowIn_len hr)]
            simp only [cond_true, Bool.not_true, cond_false, Option.bind_some]
            rw [h4 _ _ (by rw [keyOf_len]; exact hs.2.2.1)]
            exact bif_step _ _
        · have : cRowsStep x l l[k] k = false := by simp [cRowsStep, hr]
          simp [hr, this]
      · cases allFrom (cRowsStep x l) l 0 <;> rfl
  · simp [ht]
def cDbOk (d : T_Db) : Bool := cCatOk d.1 && decide (d.2.length = d.1.length) && allFrom (fun t k => cRowsOk t (d.2.getD k [])) d.1 0
theorem allFrom_get {α : Type} {p : α → Nat → Bool} {l : List α} (h : allFrom p l 0 = true) {i : Nat} (hi : i < l.length) : p l[i] i = true := by
  have := (allFrom_iff p l 0).mp h i hi
  rwa [Nat.zero_add] at this
theorem cat_facts {l : T_TableS} (h : cCatOk l = true) : l.length ≤ 6 ∧ ∀ t ∈ l, cTableOk t = true := by
  simp only [cCatOk, Bool.and_eq_true, decide_eq_true_eq] at h
  refine ⟨h.1, fun t ht => ?_⟩
  obtain ⟨i, hi, rfl⟩ := List.mem_iff_getElem.mp ht
  have := allFrom_get h.2 hi
  simp only [cCatStep, Bool.and_eq_true] at this
  exact this.1
theorem db_facts {d : T_Db} (h : cDbOk d = true) : cCatOk d.1 = true ∧ d.2.length = d.1.length ∧ ∀ i (h1 : i < d.1.length) (h2 : i < d.2.length), cRowsOk d.1[i] d.2[i] = true := by
  simp only [cDbOk, Bool.and_eq_true, decide_eq_true_eq] at h
  refine ⟨h.1.1, h.1.2, fun i h1 h2 => ?_⟩
  have := allFrom_get h.2 h1
  rwa [getD_at h2] at this
theorem spec_DbOk_ok : EV fun n => ∀ d : T_Db, sm_Db 1048576 d → spec_DbOk n d.1 d.2 = some (cDbOk d) := (spec_CatOk_ok.and (spec_RowsOk_ok.and (EV.gt 1048576))).up fun n ⟨h1, h2, hn⟩ d hs => by
  have lc : d.1.length ≤ 1048576 := hs.1.1
  simp only [spec_DbOk, h1 d.1 hs.1, Option.bind_some, cDbOk, int_bne]
  cases cCatOk d.1
  · simp
  by_cases hl : d.2.length = d.1.length
  · have hl' : ((d.2.length : Int) = (d.1.length : Int)) = True := eq_true (by omega)
    simp only [Bool.not_true, cond_false, hl', decide_true, hl, Bool.true_and]
    refine (allFrom_loop (fun t k => cRowsOk t (d.2.getD k [])) d.1 (fun j k => spec_DbOk_L1 n j d.1 (d.1.length : Int) (k : Int) d.1 d.2) (some true) (fun j => by simp only [spec_DbOk_L1, lt_cast, Nat.lt_irrefl, decide_false, cond_false]) (fun j k hk => ?_) d.1 n 0 rfl (by omega) (by omega)).trans ?_
    · have hk2 : k < d.2.length := by omega
      simp only [spec_DbOk_L1, lt_cast, decide_eq_true hk, inR_true hk, inR_true hk2, Int.toNat_natCast, getD_at hk, getD_at hk2, cond_true, wrap_succ hk (by omega), h2 d.1[k] d.2[k] (hs.1.2 _ (List.getElem_mem hk)) (hs.2.2 _ (List.getElem_mem hk2)).1, Option.bind_some]
      exact bif_step _ _
    · cases allFrom (fun t k => cRowsOk t (d.2.getD k [])) d.1 0 <;> rfl
  · have hl' : ¬ (d.2.length : Int) = (d.1.length : Int) := by omega
    simp [hl, hl']
theorem impl_DbOk_ok : EV fun n => ∀ d : T_Db, sm_Db 1048576 d → impl_DbOk n d.1 d.2 = some (cDbOk d) := (impl_CatOk_ok.and (impl_RowsOk_ok.and (EV.gt 1048576))).up fun n ⟨h1, h2, hn⟩ d hs => by
  have lc : d.1.length ≤ 1048576 := hs.1.1
  simp only [impl_DbOk, h1 d.1 hs.1, Option.bind_some, cDbOk, int_bne]
  cases cCatOk d.1
  · simp
  by_cases hl : d.2.length = d.1.length
  · have hl' : ((d.2.length : Int) = (d.1.length : Int)) = True := eq_true (by omega)
    simp only [Bool.not_true, cond_false, hl', decide_true, hl, Bool.true_and]
    refine (allFrom_loop (fun t k => cRowsOk t (d.2.getD k [])) d.1 (fun j k => impl_DbOk_L1 n j d.1 (d.1.length : Int) (k : Int) d.1 d.2) (some true) (fun j => by simp only [impl_DbOk_L1, lt_cast, Nat.lt_irrefl, decide_false, cond_false]) (fun j k hk => ?_) d.1 n 0 rfl (by omega) (by omega)).trans ?_
    · have hk2 : k < d.2.length := by omega
      simp only [impl_DbOk_L1, lt_cast, decide_eq_true hk, inR_true hk, inR_true hk2, Int.toNat_natCast, getD_at hk, getD_at hk2, cond_true, wrap_succ hk (by omega), h2 d.1[k] d.2[k] (hs.1.2 _ (List.getElem_mem hk)) (hs.2.2 _ (List.getElem_mem hk2)).1, Option.bind_some]
      exact bif_step _ _
    · cases allFrom (fun t k => cRowsOk t (d.2.getD k [])) d.1 0 <;> rfl
  · have hl' : ¬ (d.2.length : Int) = (d.1.length : Int) := by omega
    simp [hl, hl']
theorem dbOk_len {d : T_Db} (h : cDbOk d = true) : d.2.length = d.1.length ∧ d.1.length ≤ 6 := by
  simp only [cDbOk, Bool.and_eq_true, decide_eq_true_eq] at h
  exact ⟨h.1.2, (cat_facts h.1.1).1⟩
theorem impl_Cat_at_ok : EV fun n => ∀ (l : T_TableS) (s : ByteArray), l.length ≤ 1048576 → impl_Cat_at n l s = some (idx (fun t => decide (t.1 = s)) l) := by
  have h0 : EV fun n => ∀ (l : T_TableS) (s : ByteArray), l.length ≤ 1048576 → slices_IndexFunc_impl_Table_impl_Table__impl_Cat_at_1 n l s = some (idx (fun t => decide (t.1 = s)) l) := (((EV.gt 0).up (q := fun n => ∀ (t : T_Table) (s : ByteArray), impl_Cat_at_1 n t.1 t.2.1 t.2.2 s = some (decide (t.1 = s))) fun n _ t s => by simp only [impl_Cat_at_1, text_eq]).and (EV.gt 1048577)).up fun n ⟨h, hn⟩ l s hl => by
    rw [slices_IndexFunc_impl_Table_impl_Table__impl_Cat_at_1]
    refine find_loop (fun t => decide (t.1 = s)) l (fun j k => slices_IndexFunc_impl_Table_impl_Table__impl_Cat_at_1_L1 n j l s (l.length : Int) (k : Int)) (fun j => ?_) (fun j k hk => ?_) l n 0 rfl (by omega) (by omega)
    · simp only [slices_IndexFunc_impl_Table_impl_Table__impl_Cat_at_1_L1, lt_cast, Nat.lt_irrefl, decide_false, cond_false]
    · simp only [slices_IndexFunc_impl_Table_impl_Table__impl_Cat_at_1_L1, lt_cast, decide_eq_true hk, inR_true hk, Int.toNat_natCast, getD_at hk, cond_true, wrap_succ hk (by omega), h, Option.bind_some]
      exact bif_step' _ _
  exact h0.up fun n h l s hl => by simp only [impl_Cat_at, h l s hl, Option.bind_some]
def noTable : T_Table := (E0, ([], []))
def wsOk (ws : List ByteArray) : Prop := ws.length ≤ 1048577 ∧ ∀ w ∈ ws, w.size ≤ 1048576
theorem wsOk.drop {ws : List ByteArray} (h : wsOk ws) (i : Nat) : wsOk (ws.drop i) := ⟨by have := h.1; simp; omega, fun w hw => h.2 w (List.mem_of_mem_drop hw)⟩
theorem bytesLess_tri : ∀ x y : List UInt8, (Op.bytesLess x y && Op.bytesLess y x) = false ∧ (Op.bytesLess x y || Op.bytesLess y x) = !decide (x = y)
  | [], [] => by simp [Op.bytesLess]
  | [], b :: y => by simp [Op.bytesLess]
  | a :: x, [] => by simp [Op.bytesLess]
  | a :: x, b :: y => by
    obtain ⟨h1, h2⟩ := bytesLess_tri x y
    simp only [Op.bytesLess]
    by_cases h : a = b
    · subst h
      simp only [show (a < a) = False from eq_false (UInt8.lt_irrefl a), decide_false, Bool.false_or, BEq.rfl, Bool.true_and, h1, h2, List.cons.injEq, true_and]
    · have hn : ¬ b = a := fun e => h e.symm
      have e1 : (a == b) = false := by simp [h]
      have e2 : (b == a) = false := by simp [hn]
      simp only [e1, e2, Bool.false_and, Bool.or_false, List.cons.injEq, h, false_and, decide_false, Bool.not_false]
      rcases UInt8.lt_or_lt_of_ne h with g | g
      · have : ¬ b < a := UInt8.lt_asymm g
        simp [g, this]
      · have : ¬ a < b := UInt8.lt_asymm g
        simp [g, this]
def foldI {α S : Type} (f : Nat → α → S → S) : Nat → List α → S → S
  | _, [], s => s
  | k, x :: t, s => foldI f (k + 1) t (f k x s)
theorem foldI_loop {α S T : Type} (l : List α) (f : Nat → α → S → S) (L : Nat → Nat → S → T) (R : S → T) (Inv : Nat → S → Prop) (hinv : ∀ k (h : k < l.length) s, Inv k s → Inv (k + 1) (f k l[k] s))
    (hexit : ∀ j s, Inv l.length s → L (j + 1) l.length s = R s) (hstep : ∀ j k s (h : k < l.length), Inv k s → L (j + 1) k s = L j (k + 1) (f k l[k] s)) :
    ∀ (t : List α) (j k : Nat) (s : S), l.drop k = t → k ≤ l.length → t.length < j → Inv k s → L j k s = R (foldI f k t s)
  | [], j + 1, k, s, hd, hk, _, hs => by
    have : k = l.length := by
      rcases Nat.lt_or_ge k l.length with h' | h'
      · rw [List.drop_eq_getElem_cons h'] at hd; cases hd
      · omega
    subst this; rw [hexit _ _ hs]; rfl
  | x :: t, j + 1, k, s, hd, hk, hj, hs => by
    obtain ⟨h2, h3, h4⟩ := drop_cons hd x
    have hx : l[k] = x := by simpa [List.getD, h2] using h3
    rw [hstep j k s h2 hs, foldI_loop l f L R Inv hinv hexit hstep t j (k + 1) _ h4 (by omega) (by simp at hj; omega) (hinv k h2 s hs)]
    simp only [foldI, hx]
theorem bytesLess_trans : ∀ {x y z : List UInt8}, Op.bytesLess x y = true → Op.bytesLess y z = true → Op.bytesLess x z = true
  | _, [], _, h, _ => by cases ‹List UInt8› <;> simp [Op.bytesLess] at h
  | _, _ :: _, [], _, h => by simp [Op.bytesLess] at h
  | [], _ :: _, _ :: _, _, _ => by simp [Op.bytesLess]
  | a :: x, b :: y, c :: z, h1, h2 => by
    simp only [Op.bytesLess, Bool.or_eq_true, Bool.and_eq_true, decide_eq_true_eq, beq_iff_eq] at h1 h2 ⊢
    rcases h1 with h1 | ⟨rfl, h1⟩
    · rcases h2 with h2 | ⟨rfl, _⟩
      · exact .inl (UInt8.lt_trans h1 h2)
      · exact .inl h1
    · rcases h2 with h2 | ⟨rfl, h2⟩
      · exact .inl h2
      · exact .inr ⟨rfl, bytesLess_trans h1 h2⟩
theorem idx_none {α : Type} (p : α → Bool) : ∀ (l : List α) (k : Nat), idxFrom p l k = -1 ↔ ∀ y ∈ l, p y = false
  | [], k => by simp [idxFrom]
  | x :: t, k => by
    simp only [idxFrom, List.mem_cons, forall_eq_or_imp]
    by_cases h : p x = true
    · rw [if_pos h]
      constructor
      · intro e; omega
      · intro e; rw [e.1] at h; cases h
    · rw [if_neg h, idx_none p t (k + 1)]
      simp at h
      simp [h]
theorem idx_neg {α : Type} (p : α → Bool) (l : List α) : ¬ 0 ≤ idx p l ↔ ∀ y ∈ l, p y = false := by
  rw [← idx_none p l 0]
  have := (idx_lt p l).1
  unfold idx at this ⊢
  omega
theorem idx_at {α : Type} (p : α → Bool) : ∀ (l : List α) (k i : Nat), idxFrom p l k = ((k + i : Nat) : Int) → ∃ h : i < l.length, p l[i] = true
  | [], k, i, h => by simp only [idxFrom] at h; omega
  | x :: t, k, i, h => by
    simp only [idxFrom] at h
    split at h
    · rename_i hp
      obtain rfl : i = 0 := by omega
      exact ⟨by simp, hp⟩
    · rcases idx_bound p t (k + 1) with e | e
      · omega
      · obtain ⟨i, rfl⟩ : ∃ i', i = i' + 1 := ⟨i - 1, by omega⟩
        obtain ⟨h1, h2⟩ := idx_at p t (k + 1) i (by rw [h]; congr 1; omega)
        exact ⟨by simp; exact h1, by simpa using h2⟩
theorem idx_pos {α : Type} {p : α → Bool} {l : List α} (h : ∃ y ∈ l, p y = true) : 0 ≤ idx p l := by
  by_cases c : 0 ≤ idx p l
  · exact c
  · obtain ⟨y, hy, hp⟩ := h
    rw [(idx_neg p l).mp c y hy] at hp; cases hp
def lessT (a b : ByteArray) : Bool := Op.bytesLess a.toList b.toList
theorem lessT_irr (a : ByteArray) : lessT a a = false := by
  have := (bytesLess_tri a.toList a.toList).1
  rwa [Bool.and_self] at this
theorem lessT_tri {a b : ByteArray} (h : lessT a b = false) (hne : a ≠ b) : lessT b a = true := by
  have := (bytesLess_tri a.toList b.toList).2
  have e : ¬ a.toList = b.toList := fun e => hne (by rw [text_eq'] at e; exact e)
  simp only [lessT] at h ⊢
  rw [h, Bool.false_or, decide_eq_false e] at this
  exact this
theorem lessT_trans {a b c : ByteArray} (h : lessT a b = true) (h2 : lessT b c = true) : lessT a c = true := bytesLess_trans h h2
theorem lessT_asymm {a b : ByteArray} (h : lessT a b = true) : lessT b a = false := by
  cases h2 : lessT b a
  · rfl
  · have := lessT_trans h h2
    rw [lessT_irr] at this; cases this
def Rising (l : List ByteArray) : Prop := l.Pairwise fun a b => lessT a b = true
theorem rising_ext : ∀ l m : List ByteArray, Rising l → Rising m → (∀ s, s ∈ l ↔ s ∈ m) → l = m
  | [], [], _, _, _ => rfl
  | [], b :: m, _, _, h => absurd ((h b).mpr (List.mem_cons_self ..)) (by simp)
  | a :: l, [], _, _, h => absurd ((h a).mp (List.mem_cons_self ..)) (by simp)
  | a :: l, b :: m, hl, hm, h => by
    obtain ⟨a1, a2⟩ := List.pairwise_cons.mp hl
    obtain ⟨b1, b2⟩ := List.pairwise_cons.mp hm
    have hab : a = b := by
      rcases List.mem_cons.mp ((h a).mp (List.mem_cons_self ..)) with e | e
      · exact e
      · rcases List.mem_cons.mp ((h b).mpr (List.mem_cons_self ..)) with e2 | e2
        · exact e2.symm
        · have := lessT_trans (a1 b e2) (b1 a e)
          rw [lessT_irr] at this; cases this
    subst hab
    congr 1
    refine rising_ext l m a2 b2 fun s => ⟨fun hs => ?_, fun hs => ?_⟩
    · rcases List.mem_cons.mp ((h s).mp (List.mem_cons_of_mem _ hs)) with e | e
      · subst e; have := a1 s hs; rw [lessT_irr] at this; cases this
      · exact e
    · rcases List.mem_cons.mp ((h s).mpr (List.mem_cons_of_mem _ hs)) with e | e
      · subst e; have := b1 s hs; rw [lessT_irr] at this; cases this
      · exact e
def insT (s : ByteArray) : List ByteArray → List ByteArray
  | [] => [s]
  | x :: t => if lessT s x = true then s :: x :: t else x :: insT s t
def hasT (l : List ByteArray) (s : ByteArray) : Bool := l.any fun x => decide (x = s)
theorem hasT_iff (l : List ByteArray) (s : ByteArray) : hasT l s = true ↔ s ∈ l := by
  simp only [hasT, List.any_eq_true, decide_eq_true_eq]
  exact ⟨fun ⟨x, h, e⟩ => e ▸ h, fun h => ⟨s, h, rfl⟩⟩
def addT (l : List ByteArray) (s : ByteArray) : List ByteArray := if hasT l s = true then l else insT s l
theorem insT_mem (s y : ByteArray) : ∀ l : List ByteArray, y ∈ insT s l ↔ y = s ∨ y ∈ l
  | [] => by simp [insT]
  | x :: t => by
    simp only [insT]
    split
    · simp
    · rw [List.mem_cons, insT_mem s y t, List.mem_cons]
      constructor
      · rintro (h | h | h)
        · exact .inr (.inl h)
        · exact .inl h
        · exact .inr (.inr h)
      · rintro (h | h | h)
        · exact .inr (.inl h)
        · exact .inl h
        · exact .inr (.inr h)
theorem insT_rising {s : ByteArray} : ∀ {l : List ByteArray}, Rising l → s ∉ l → Rising (insT s l)
  | [], _, _ => by simp [insT, Rising]
  | x :: t, h, hs => by
    obtain ⟨h1, h2⟩ := List.pairwise_cons.mp h
    simp only [insT]
    split
    · rename_i c
      refine List.pairwise_cons.mpr ⟨fun y hy => ?_, h⟩
      rcases List.mem_cons.mp hy with e | e
      · subst e; exact c
      · exact lessT_trans c (h1 y e)
    · rename_i c
      refine List.pairwise_cons.mpr ⟨fun y hy => ?_, insT_rising h2 fun hm => hs (List.mem_cons_of_mem _ hm)⟩
      rcases (insT_mem s y t).mp hy with e | e
      · subst e
        exact lessT_tri (by simpa using c) fun e => hs (by rw [e]; exact List.mem_cons_self ..)
      · exact h1 y e
theorem addT_mem (l : List ByteArray) (s y : ByteArray) : y ∈ addT l s ↔ y ∈ l ∨ y = s := by
  unfold addT
  split
  · constructor
    · exact .inl
    · rintro (h | h)
      · exact h
      · subst h; exact (hasT_iff _ _).mp (by assumption)
  · rw [insT_mem]; exact ⟨Or.symm, Or.symm⟩
theorem addT_rising {l : List ByteArray} {s : ByteArray} (h : Rising l) : Rising (addT l s) := by
  unfold addT
  split
  · exact h
  · exact insT_rising h fun hm => absurd ((hasT_iff _ _).mpr hm) (by assumption)
def tAt (l : T_TableS) (s : ByteArray) : Int := idx (fun t : T_Table => decide (t.1 = s)) l
theorem tAt_pos {l : T_TableS} {s : ByteArray} : 0 ≤ tAt l s ↔ ∃ t ∈ l, t.1 = s := by
  constructor
  · intro h
    refine Classical.byContradiction fun hn => ?_
    refine (idx_neg (fun t : T_Table => decide (t.1 = s)) l).mpr (fun t ht => ?_) h
    exact decide_eq_false fun e => hn ⟨t, ht, e⟩
  · rintro ⟨t, ht, e⟩
    exact idx_pos ⟨t, ht, decide_eq_true e⟩
theorem cat_rising {l : T_TableS} (h : cCatOk l = true) : ∀ i j (hi : i < j) (hj : j < l.length), lessT l[i].1 l[j].1 = true := by
  have hstep : ∀ k (hk : k + 1 < l.length), lessT l[k].1 l[k + 1].1 = true := fun k hk => by
    simp only [cCatOk, Bool.and_eq_true, decide_eq_true_eq] at h
    have := allFrom_get h.2 hk
    simp only [cCatStep, Bool.and_eq_true, Bool.or_eq_true, decide_eq_true_eq] at this
    rcases this.2 with e | e
    · omega
    · simp only [Nat.add_sub_cancel] at e
      rw [getD_at (show k < l.length by omega)] at e
      exact e
  intro i j hi
  induction j with
  | zero => omega
  | succ j ih =>
    intro hj
    rcases Nat.lt_or_ge i j with c | c
    · exact lessT_trans (ih c (by omega)) (hstep j hj)
    · have : i = j := by omega
      subst this; exact hstep _ hj
theorem tAt_at {l : T_TableS} (h : cCatOk l = true) {k : Nat} (hk : k < l.length) : tAt l l[k].1 = (k : Int) := by
  have hp : 0 ≤ tAt l l[k].1 := tAt_pos.mpr ⟨l[k], List.getElem_mem hk, rfl⟩
  obtain ⟨i, e⟩ := Int.eq_ofNat_of_zero_le hp
  obtain ⟨hi, e2⟩ := idx_at (fun t : T_Table => decide (t.1 = l[k].1)) l 0 i (by rw [Nat.zero_add]; exact e)
  rw [decide_eq_true_eq] at e2
  rw [e]
  rcases Nat.lt_or_ge i k with c | c
  · have := cat_rising h i k c hk
    rw [e2, lessT_irr] at this; cases this
  · rcases Nat.lt_or_ge k i with c2 | c2
    · have := cat_rising h k i c2 hi
      rw [e2, lessT_irr] at this; cases this
    · have : i = k := by omega
      rw [this]
def cSame (a b : T_Db) (s : ByteArray) : Bool :=
  decide (0 ≤ tAt a.1 s ∧ 0 ≤ tAt b.1 s ∧ a.1.getD (tAt a.1 s).toNat noTable = b.1.getD (tAt b.1 s).toNat noTable ∧ a.2.getD (tAt a.1 s).toNat [] = b.2.getD (tAt b.1 s).toNat [])
theorem same_pos {a b : T_Db} {s : ByteArray} (h : cSame a b s = true) : 0 ≤ tAt a.1 s ∧ 0 ≤ tAt b.1 s := by
  simp only [cSame, decide_eq_true_eq] at h
  exact ⟨h.1, h.2.1⟩
def diffStep (a b : T_Db) (t : T_Table) (acc : List ByteArray) : List ByteArray := if cSame a b t.1 = true then acc else addT acc t.1
def cDiff (a b : T_Db) : List ByteArray := if cDbOk a = true ∧ cDbOk b = true then foldI (fun _ => diffStep a b) 0 (a.1 ++ b.1) [] else []
theorem diff_fold (a b : T_Db) : ∀ (l : T_TableS) (k : Nat) (acc : List ByteArray), Rising acc → Rising (foldI (fun _ => diffStep a b) k l acc) ∧ ∀ s, s ∈ foldI (fun _ => diffStep a b) k l acc ↔ s ∈ acc ∨ ∃ t ∈ l, t.1 = s ∧ cSame a b s = false
  | [], k, acc, h => ⟨h, fun s => by simp [foldI]⟩
  | t :: l, k, acc, h => by
    have hr : Rising (diffStep a b t acc) := by
      unfold diffStep
      split
      · exact h
      · exact addT_rising h
    obtain ⟨h1, h2⟩ := diff_fold a b l (k + 1) (diffStep a b t acc) hr
    refine ⟨h1, fun s => ?_⟩
    simp only [foldI]
    rw [h2]
    have hm : s ∈ diffStep a b t acc ↔ s ∈ acc ∨ (t.1 = s ∧ cSame a b s = false) := by
      unfold diffStep
      split
      · rename_i c
        constructor
        · exact .inl
        · rintro (h | ⟨e, h⟩)
          · exact h
          · rw [e] at c; rw [c] at h; cases h
      · rename_i c
        rw [addT_mem]
        constructor
        · rintro (h | h)
          · exact .inl h
          · subst h; exact .inr ⟨rfl, by simpa using c⟩
        · rintro (h | ⟨e, _⟩)
          · exact .inl h
          · exact .inr e.symm
    rw [hm]
    constructor
    · rintro ((h | h) | ⟨x, hx, h⟩)
      · exact .inl h
      · exact .inr ⟨t, List.mem_cons_self .., h⟩
      · exact .inr ⟨x, List.mem_cons_of_mem _ hx, h⟩
    · rintro (h | ⟨x, hx, h⟩)
      · exact .inl (.inl h)
      · rcases List.mem_cons.mp hx with e | e
        · subst e; exact .inl (.inr h)
        · exact .inr ⟨x, e, h⟩
theorem push_filter {p : T_Table → Bool} : ∀ (l : T_TableS) (k : Nat) (acc : List ByteArray), foldI (fun _ t (s : List ByteArray) => if p t = true then s ++ [t.1] else s) k l acc = acc ++ (l.filter p).map (·.1)
  | [], k, acc => by simp [foldI]
  | t :: l, k, acc => by
    simp only [foldI]
    rw [push_filter l (k + 1)]
    by_cases c : p t = true
    · simp [c]
    · simp [c]
theorem names_nodup {l : T_TableS} (h : cCatOk l = true) (p : T_Table → Bool) : ((l.filter p).map (·.1)).Nodup := by
  have h1 : l.Pairwise fun x y => lessT x.1 y.1 = true := List.pairwise_iff_getElem.mpr fun i j hi hj hij => cat_rising h i j hij hj
  refine List.pairwise_map.mpr ((h1.filter p).imp fun {x y} hxy e => ?_)
  rw [e, lessT_irr] at hxy; cases hxy
theorem sort_rising {l : List ByteArray} (h : l.Nodup) : Rising (l.mergeSort fun a b => !Op.bytesLess b.toList a.toList) := by
  have h1 : (l.mergeSort fun a b => !Op.bytesLess b.toList a.toList).Pairwise fun a b => (!Op.bytesLess b.toList a.toList) = true := by
    refine List.pairwise_mergeSort (fun a b c hab hbc => ?_) (fun a b => ?_) l
    · rw [Bool.not_eq_true'] at hab hbc ⊢
      cases hca : Op.bytesLess c.toList a.toList
      · rfl
      · by_cases e : a = b
        · subst e; rw [hca] at hbc; cases hbc
        · have := lessT_trans (a := c) hca (lessT_tri hab fun h => e h.symm)
          rw [show lessT c b = false from hbc] at this; cases this
    · cases hba : Op.bytesLess b.toList a.toList
      · rfl
      · have := lessT_asymm (a := b) (b := a) hba
        simp only [lessT] at this
        simp [this]
  have h2 : (l.mergeSort fun a b => !Op.bytesLess b.toList a.toList).Nodup := (List.mergeSort_perm l _).nodup_iff.mpr h
  refine (h1.and h2).imp fun {a b} ⟨e1, e2⟩ => ?_
  rw [Bool.not_eq_true'] at e1
  exact lessT_tri e1 fun h => e2 h.symm
theorem tAt_cases (l : T_TableS) (s : ByteArray) : tAt l s < 0 ∨ ∃ k : Nat, tAt l s = (k : Int) ∧ k < l.length := by
  obtain ⟨b1, b2⟩ := idx_lt (fun t : T_Table => decide (t.1 = s)) l
  rw [show idx (fun t : T_Table => decide (t.1 = s)) l = tAt l s from rfl] at b1 b2
  by_cases c : 0 ≤ tAt l s
  · obtain ⟨k, e⟩ := Int.eq_ofNat_of_zero_le c
    exact .inr ⟨k, e, by omega⟩
  · exact .inl (by omega)
theorem impl_Diff_ok : EV fun n => ∀ a b : T_Db, sm_Db 1048576 a → sm_Db 1048576 b → impl_Diff n a.1 a.2 b.1 b.2 = some (cDiff a b) := (impl_DbOk_ok.and (impl_Cat_at_ok.and (impl_equalTables_ok.and (impl_SameRows_ok.and (EV.gt 100))))).up fun n ⟨h1, h2, h3, h4, hn⟩ a b ha hb => by
  simp only [impl_Diff, h1 a ha, h1 b hb, Option.bind_some]
  by_cases oa : cDbOk a = true
  · by_cases ob : cDbOk b = true
    · have la := (dbOk_len oa).2
      have lb := (dbOk_len ob).2
      obtain ⟨ca, da, _⟩ := db_facts oa
      obtain ⟨cb, db, _⟩ := db_facts ob
      simp only [oa, ob, Bool.not_true, cond_false]
      -- the second loop and the sort
      have hL2 : ∀ acc : List ByteArray, acc.length ≤ 6 → impl_Diff_L2 n n b.1 (b.1.length : Int) ((0 : Nat) : Int) a.1 a.2 acc = some ((acc ++ (b.1.filter fun t => decide (tAt a.1 t.1 < 0)).map (·.1)).mergeSort fun a b => !Op.bytesLess b.toList a.toList) := by
        intro acc hacc
        refine (foldI_loop b.1 (fun _ t (s : List ByteArray) => if (decide (tAt a.1 t.1 < 0)) = true then s ++ [t.1] else s) (fun j k acc => impl_Diff_L2 n j b.1 (b.1.length : Int) (k : Int) a.1 a.2 acc) (fun s => some (s.mergeSort fun a b => !Op.bytesLess b.toList a.toList)) (fun k s => s.length ≤ 6 + k) (fun k hk s h => ?_) (fun j s hs => ?_) (fun j k s hk hs => ?_) b.1 n 0 acc rfl (by omega) (by omega) (by omega)).trans ?_
        · split
          · rw [List.length_append]; simp only [List.length_cons, List.length_nil]; omega
          · omega
        · obtain ⟨m, rfl⟩ : ∃ m, n = m + 1 := ⟨n - 1, by omega⟩
          simp only [impl_Diff_L2, lt_cast, Nat.lt_irrefl, decide_false, cond_false, slices_Sort_string_string, sortF]
          rw [decide_eq_true (show s.length < 4611686018427387904 by omega)]; rfl
        · have e := h2 a.1 b.1[k].1 ha.1.1
          rw [show idx (fun t : T_Table => decide (t.1 = b.1[k].1)) a.1 = tAt a.1 b.1[k].1 from rfl] at e
          have r1 : room (s.length + [b.1[k].1].length) 16 = true := by simp only [room, decide_eq_true_eq, List.length_cons, List.length_nil]; omega
          simp only [impl_Diff_L2, lt_cast, decide_eq_true hk, inR_true hk, Int.toNat_natCast, getD_at hk, cond_true, wrap_succ hk (by omega), e, Option.bind_some, r1]
          cases decide (tAt a.1 b.1[k].1 < 0) <;> rfl
        · rw [push_filter]
      have hL1 : impl_Diff_L1 n n a.1 (a.1.length : Int) ((0 : Nat) : Int) a.1 a.2 b.1 b.2 [] = impl_Diff_L2 n n b.1 (b.1.length : Int) ((0 : Nat) : Int) a.1 a.2 ((a.1.filter fun t => !cSame a b t.1).map (·.1)) := by
        refine (foldI_loop a.1 (fun _ t (s : List ByteArray) => if (!cSame a b t.1) = true then s ++ [t.1] else s) (fun j k acc => impl_Diff_L1 n j a.1 (a.1.length : Int) (k : Int) a.1 a.2 b.1 b.2 acc) (fun s => impl_Diff_L2 n n b.1 (b.1.length : Int) ((0 : Nat) : Int) a.1 a.2 s) (fun k s => s.length ≤ k) (fun k hk s h => ?_) (fun j s hs => ?_) (fun j k s hk hs => ?_) a.1 n 0 [] rfl (by omega) (by omega) (Nat.le_refl 0)).trans ?_
        · split
          · rw [List.length_append]; simp only [List.length_cons, List.length_nil]; omega
          · omega
        · simp only [impl_Diff_L1, lt_cast, Nat.lt_irrefl, decide_false, cond_false]; rfl
        · have e := h2 b.1 a.1[k].1 hb.1.1
          rw [show idx (fun t : T_Table => decide (t.1 = a.1[k].1)) b.1 = tAt b.1 a.1[k].1 from rfl] at e
          have r1 : room (s.length + [a.1[k].1].length) 16 = true := by simp only [room, decide_eq_true_eq, List.length_cons, List.length_nil]; omega
          have hk2 : k < a.2.length := by omega
          simp only [impl_Diff_L1, lt_cast, decide_eq_true hk, inR_true hk, Int.toNat_natCast, getD_at hk, cond_true, wrap_succ hk (by omega), e, Option.bind_some, r1]
          rcases tAt_cases b.1 a.1[k].1 with c | ⟨i, ei, hi⟩
          · have hs : cSame a b a.1[k].1 = false := by
              cases h : cSame a b a.1[k].1
              · rfl
              · have := (same_pos h).2; omega
            rw [decide_eq_true c, hs]; rfl
          · have hi2 : i < b.2.length := by omega
            have e3 := h3 a.1[k] b.1[i] (ha.1.2 _ (List.getElem_mem hk))
            have e4 := h4 a.2[k] b.2[i] (ha.2.2 _ (List.getElem_mem hk2))
            have z : ¬ ((i : Int) < 0) := by omega
            have hs : cSame a b a.1[k].1 = (decide (a.1[k] = b.1[i]) && decide (a.2[k] = b.2[i])) := by
              rw [← Bool.decide_and]
              unfold cSame
              rw [decide_eq_decide, tAt_at ca hk, ei]
              simp only [Int.toNat_natCast, getD_at hk, getD_at hi, getD_at hk2, getD_at hi2]
              constructor
              · rintro ⟨_, _, x, y⟩; exact ⟨x, y⟩
              · rintro ⟨x, y⟩; exact ⟨by omega, by omega, x, y⟩
            simp only [ei, decide_eq_false z, cond_false, inR_true hi, inR_true hi2, inR_true hk2, cond_true, Int.toNat_natCast, getD_at hi, getD_at hi2, getD_at hk2, e3, e4, Option.bind_some, hs]
            cases decide (a.1[k] = b.1[i]) <;> cases decide (a.2[k] = b.2[i]) <;> rfl
        · rw [push_filter]; rfl
      rw [show (0 : Int) = ((0 : Nat) : Int) from rfl, hL1, hL2 _ (by
        rw [List.length_map]; exact Nat.le_trans (List.length_filter_le _ _) la)]
      congr 1
      obtain ⟨f1, f2⟩ := diff_fold a b (a.1 ++ b.1) 0 [] List.Pairwise.nil
      simp only [cDiff, oa, ob, and_self, if_true]
      refine rising_ext _ _ (sort_rising ?_) f1 fun s => ?_
      · refine List.nodup_append.mpr ⟨names_nodup ca _, names_nodup cb _, fun x hx y hy e => ?_⟩
        subst e
        obtain ⟨t, ht, e1⟩ := List.mem_map.mp hx
        obtain ⟨u, hu, e2⟩ := List.mem_map.mp hy
        have h1 := (List.mem_filter.mp ht).1
        have h2 := (List.mem_filter.mp hu).2
        rw [decide_eq_true_eq, e2] at h2
        have := tAt_pos.mpr ⟨t, h1, e1⟩
        omega
      · rw [List.mem_mergeSort, f2, List.mem_append]
        constructor
        · rintro (h | h)
          · obtain ⟨t, ht, e1⟩ := List.mem_map.mp h
            obtain ⟨h1, h2⟩ := List.mem_filter.mp ht
            exact .inr ⟨t, List.mem_append_left _ h1, e1, by rw [← e1]; simpa using h2⟩
          · obtain ⟨t, ht, e1⟩ := List.mem_map.mp h
            obtain ⟨h1, h2⟩ := List.mem_filter.mp ht
            refine .inr ⟨t, List.mem_append_right _ h1, e1, ?_⟩
            rw [decide_eq_true_eq, e1] at h2
            cases h : cSame a b s
            · rfl
            · have := (same_pos h).1; omega
        · rintro (h | ⟨t, ht, e1, e2⟩)
          · cases h
          rcases List.mem_append.mp ht with h | h
          · exact .inl (List.mem_map.mpr ⟨t, List.mem_filter.mpr ⟨h, by rw [e1, e2]; rfl⟩, e1⟩)
          · by_cases c : tAt a.1 s < 0
            · exact .inr (List.mem_map.mpr ⟨t, List.mem_filter.mpr ⟨h, by rw [e1]; exact decide_eq_true c⟩, e1⟩)
            · obtain ⟨u, hu, e3⟩ := tAt_pos.mp (show 0 ≤ tAt a.1 s by omega)
              exact .inl (List.mem_map.mpr ⟨u, List.mem_filter.mpr ⟨hu, by rw [e3, e2]; rfl⟩, e3⟩)
    · simp [oa, ob, cDiff]
  · simp [oa, cDiff]
theorem noDiff_names {a b : T_Db} (oa : cDbOk a = true) (ob : cDbOk b = true) (h : cDiff a b = []) : ∀ s, (∃ t ∈ a.1 ++ b.1, t.1 = s) → cSame a b s = true := by
  intro s ⟨t, ht, e⟩
  obtain ⟨_, f2⟩ := diff_fold a b (a.1 ++ b.1) 0 [] List.Pairwise.nil
  simp only [cDiff, oa, ob, and_self, if_true] at h
  cases hs : cSame a b s
  · have := (f2 s).mpr (.inr ⟨t, ht, e, hs⟩)
    rw [h] at this; cases this
  · rfl
theorem names_eq {a b : T_Db} (oa : cDbOk a = true) (ob : cDbOk b = true) (h : cDiff a b = []) : a.1.map (·.1) = b.1.map (·.1) := by
  have hn := noDiff_names oa ob h
  have hr : ∀ {l : T_TableS}, cCatOk l = true → Rising (l.map (·.1)) := fun {l} hc =>
    List.pairwise_map.mpr (List.pairwise_iff_getElem.mpr fun i j hi hj hij => cat_rising hc i j hij hj)
  refine rising_ext _ _ (hr (db_facts oa).1) (hr (db_facts ob).1) fun s => ⟨fun hs => ?_, fun hs => ?_⟩
  · obtain ⟨t, ht, e⟩ := List.mem_map.mp hs
    obtain ⟨u, hu, e2⟩ := tAt_pos.mp (same_pos (hn s ⟨t, List.mem_append_left _ ht, e⟩)).2
    exact List.mem_map.mpr ⟨u, hu, e2⟩
  · obtain ⟨t, ht, e⟩ := List.mem_map.mp hs
    obtain ⟨u, hu, e2⟩ := tAt_pos.mp (same_pos (hn s ⟨t, List.mem_append_right _ ht, e⟩)).1
    exact List.mem_map.mpr ⟨u, hu, e2⟩
theorem noDiff {a b : T_Db} (oa : cDbOk a = true) (ob : cDbOk b = true) : cDiff a b = [] ↔ a = b := by
  obtain ⟨ca, da, _⟩ := db_facts oa
  obtain ⟨cb, db, _⟩ := db_facts ob
  constructor
  · intro h
    have hn := noDiff_names oa ob h
    have he := names_eq oa ob h
    have hl : a.1.length = b.1.length := by have := congrArg List.length he; simpa using this
    have hk : ∀ k (h1 : k < a.1.length) (h2 : k < b.1.length), a.1[k] = b.1[k] ∧ a.2[k]'(by omega) = b.2[k]'(by omega) := fun k h1 h2 => by
      have e1 : a.1[k].1 = b.1[k].1 := by
        have := congrArg (fun l => l[k]?) he
        simpa [h1, h2] using this
      have hs := hn a.1[k].1 ⟨a.1[k], List.mem_append_left _ (List.getElem_mem h1), rfl⟩
      simp only [cSame, decide_eq_true_eq] at hs
      obtain ⟨_, _, x, y⟩ := hs
      rw [tAt_at ca h1, e1, tAt_at cb h2, Int.toNat_natCast] at x y
      rw [getD_at h1, getD_at h2] at x
      rw [getD_at (show k < a.2.length by omega), getD_at (show k < b.2.length by omega)] at y
      exact ⟨x, y⟩
    refine Prod.ext (List.ext_getElem hl fun k h1 h2 => (hk k h1 h2).1) (List.ext_getElem (by omega) fun k h1 h2 => (hk k (by omega) (by omega)).2)
  · rintro rfl
    obtain ⟨_, f2⟩ := diff_fold a a (a.1 ++ a.1) 0 [] List.Pairwise.nil
    simp only [cDiff, oa, and_self, if_true]
    refine List.eq_nil_iff_forall_not_mem.mpr fun s hs => ?_
    rcases (f2 s).mp hs with h | ⟨t, ht, e, h⟩
    · cases h
    · have hp : 0 ≤ tAt a.1 s := tAt_pos.mpr ⟨t, (by rcases List.mem_append.mp ht with h | h <;> exact h), e⟩
      have : cSame a a s = true := by simp [cSame, hp]
      rw [this] at h; cases h
def cSameDb (a b : T_Db) : Bool := cDbOk a && cDbOk b && decide (a = b)
theorem impl_SameDb_ok : EV fun n => ∀ a b : T_Db, sm_Db 1048576 a → sm_Db 1048576 b → impl_SameDb n a.1 a.2 b.1 b.2 = some (cSameDb a b) := (impl_DbOk_ok.and impl_Diff_ok).up fun n ⟨h1, h2⟩ a b ha hb => by
  simp only [impl_SameDb, h1 a ha, h1 b hb, h2 a b ha hb, Option.bind_some, cSameDb]
  cases oa : cDbOk a
  · rfl
  cases ob : cDbOk b
  · rfl
  simp only [cond_true, Bool.true_and, int_beq, Option.some.injEq]
  rw [decide_eq_decide, ← noDiff oa ob]
  constructor
  · intro h; exact List.eq_nil_of_length_eq_zero (by omega)
  · intro h; rw [h]; rfl
theorem spec_SameDb_ok : EV fun n => ∀ a b : T_Db, sm_Db 1048576 a → sm_Db 1048576 b → spec_SameDb n a.1 a.2 b.1 b.2 = some (cSameDb a b) := (spec_DbOk_ok.and (spec_SameTable_ok.and (spec_SameRows_ok.and (EV.gt 100)))).up fun n ⟨h1, h2, h3, hn⟩ a b ha hb => by
  simp only [spec_SameDb, h1 a ha, h1 b hb, Option.bind_some, cSameDb]
  cases oa : cDbOk a
  · rfl
  cases ob : cDbOk b
  · rfl
  simp only [Bool.not_true, cond_false, Bool.true_and, int_bne]
  obtain ⟨la, la6⟩ := dbOk_len oa
  obtain ⟨lb, lb6⟩ := dbOk_len ob
  obtain ⟨ca, da, _⟩ := db_facts oa
  obtain ⟨cb, db, _⟩ := db_facts ob
  by_cases hl : a.2.length = b.2.length
  · rw [decide_eq_true (show (a.2.length : Int) = (b.2.length : Int) by omega)]
    simp only [Bool.not_true, cond_false]
    refine (allFrom_loop (fun (x : T_RowS) k => decide (a.1.getD k noTable = b.1.getD k noTable) && decide (x = b.2.getD k [])) a.2 (fun j k => spec_SameDb_L1 n j (a.2.length : Int) (k : Int) a.1 a.2 b.1 b.2) (some true) (fun j => by simp only [spec_SameDb_L1, lt_cast, Nat.lt_irrefl, decide_false, cond_false]) (fun j k hk => ?_) a.2 n 0 rfl (by omega) (by omega)).trans ?_
    · have h1k : k < a.1.length := by omega
      have h2k : k < b.1.length := by omega
      have h3k : k < b.2.length := by omega
      have e1 := h2 a.1[k] b.1[k] (ha.1.2 _ (List.getElem_mem h1k)) (hb.1.2 _ (List.getElem_mem h2k))
      rw [(cat_facts ca).2 _ (List.getElem_mem h1k), (cat_facts cb).2 _ (List.getElem_mem h2k)] at e1
      have e2 := h3 a.2[k] b.2[k] (ha.2.2 _ (List.getElem_mem hk))
      simp only [spec_SameDb_L1, lt_cast, decide_eq_true hk, inR_true hk, inR_true h1k, inR_true h2k, inR_true h3k, Int.toNat_natCast, getD_at hk, getD_at h1k, getD_at h2k, getD_at h3k, cond_true, wrap_succ hk (by omega), e1, e2, Option.bind_some, Bool.true_and]
      cases decide (a.1[k] = b.1[k]) <;> cases decide (a.2[k] = b.2[k]) <;> rfl
    · have : allFrom (fun (x : T_RowS) k => decide (a.1.getD k noTable = b.1.getD k noTable) && decide (x = b.2.getD k [])) a.2 0 = decide (a = b) := by
        rw [Bool.eq_iff_iff, allFrom_iff, decide_eq_true_eq]
        constructor
        · intro h
          have hk : ∀ k (h1 : k < a.2.length), a.1[k]'(by omega) = b.1[k]'(by omega) ∧ a.2[k] = b.2[k]'(by omega) := fun k h1 => by
            have := h k h1
            simp only [Nat.zero_add, Bool.and_eq_true, decide_eq_true_eq] at this
            rw [getD_at (show k < a.1.length by omega), getD_at (show k < b.1.length by omega), getD_at (show k < b.2.length by omega)] at this
            exact this
          exact Prod.ext (List.ext_getElem (by omega) fun k h1 h2 => (hk k (by omega)).1) (List.ext_getElem hl fun k h1 h2 => (hk k h1).2)
        · rintro rfl k hk
          rw [Nat.zero_add, getD_at hk]; simp
      rw [this]
      cases decide (a = b) <;> rfl
  · rw [decide_eq_false (show ¬ (a.2.length : Int) = (b.2.length : Int) by omega), decide_eq_false (fun e => hl (by rw [e]))]; rfl
theorem same_SameDb : EV fun n => ∀ (x0 : T_Db) (x1 : T_Db), sm_Db 1048576 x0 → sm_Db 1048576 x1 → ∃ r, spec_SameDb n x0.1 x0.2 x1.1 x1.2 = some r ∧ impl_SameDb n x0.1 x0.2 x1.1 x1.2 = some r :=
  (spec_SameDb_ok.and impl_SameDb_ok).mono fun n h x y hx hy => ⟨_, h.1 x y hx hy, h.2 x y hx hy⟩
theorem law_SameDb : EV fun n => ∀ (x0 : T_Db) (x1 : T_Db), sm_Db 140737488355328 x0 → sm_Db 140737488355328 x1 → laws_FnExactSameDb n x0.1 x0.2 x1.1 x1.2 = some true := ((eqDb_ok.and (toDb_ok.and (szDb_ok.and same_SameDb)))).up fun n h x0 x1 w0 w1 => by
  rw [laws_FnExactSameDb]
  refine law_sz (h.2.2.1 x0 (1048576 : Int) w0 (by decide) (by decide)) (by decide) (by decide) fun c0 l0 g0 g1 => ?_
  refine law_sz (h.2.2.1 x1 l0 w1 g0 (le_big g1)) g0 (g1) fun c1 l1 g2 g3 => ?_
  have s0 := cost_sm_Db (k := 1048576) c0
  have t0 := h.2.1 x0 s0
  have q0 := h.1 x0 x0 s0
  have s1 := cost_sm_Db (k := 1048576) c1
  have t1 := h.2.1 x1 s1
  have q1 := h.1 x1 x1 s1
  obtain ⟨r, e1, e2⟩ := h.2.2.2 x0 x1 s0 s1
  simp [t0, t1, e1, e2, q0, q1]
end Go.Proofs.YtjopjjmhpadncaaGreat.Ev

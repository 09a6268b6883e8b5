/- Words for the plain laws: what holds from some fuel on; steps of loops over lists; texts as lists of bytes. -/
import Derived.Test.YthfkolhjnioblaaEvFnFnExactSameRows
import Derived.Test.YthfkolhjnioblaaEvLaw
set_option linter.all false
namespace Go.Proofs.Ythfkolhjnioblaa.Ev
open Go
set_option linter.unusedVariables false
/-- from some fuel on -/
def EV (p : Nat → Prop) : Prop := ∃ N, ∀ n, N ≤ n → p n
theorem EV.and {p q : Nat → Prop} (h1 : EV p) (h2 : EV q) : EV fun n => p n ∧ q n := by
  obtain ⟨N, h1⟩ := h1; obtain ⟨M, h2⟩ := h2
  exact ⟨max N M, fun n hn => ⟨h1 n (by omega), h2 n (by omega)⟩⟩
theorem EV.mono {p q : Nat → Prop} (h : EV p) (hpq : ∀ n, p n → q n) : EV q := by
  obtain ⟨N, h⟩ := h; exact ⟨N, fun n hn => hpq n (h n hn)⟩
theorem EV.gt (k : Nat) : EV fun n => k < n := ⟨k + 1, fun n hn => hn⟩
theorem EV.true : EV fun _ => True := ⟨0, fun _ _ => trivial⟩
theorem EV.of {p : Nat → Prop} (h : ∀ n, p n) : EV p := ⟨0, fun n _ => h n⟩
/-- one call deeper -/
theorem EV.up {p q : Nat → Prop} (h : EV p) (hpq : ∀ n, p n → q (n + 1)) : EV q := by
  obtain ⟨N, h⟩ := h
  refine ⟨N + 1, fun n hn => ?_⟩
  obtain ⟨m, rfl⟩ : ∃ m, n = m + 1 := ⟨n - 1, by omega⟩
  exact hpq m (h m (by omega))
theorem EV.all {α : Type} {p : α → Nat → Prop} : ∀ {l : List α}, (∀ x ∈ l, EV (p x)) → EV fun n => ∀ x ∈ l, p x n
  | [], _ => ⟨0, by simp⟩
  | a :: l, h => ((h a (List.mem_cons_self ..)).and (EV.all fun x hx => h x (List.mem_cons_of_mem _ hx))).mono fun n hn x hx => by
      rcases List.mem_cons.mp hx with rfl | hx
      · exact hn.1
      · exact hn.2 x hx
/-! ### whole numbers -/
theorem wrap64 {x : Int} (h1 : -9223372036854775808 ≤ x) (h2 : x ≤ 9223372036854775807) : IntKind.wrap .i64 x = x := by
  have e : IntKind.wrap .i64 x = (if x % 18446744073709551616 ≥ 9223372036854775808 then x % 18446744073709551616 - 18446744073709551616 else x % 18446744073709551616) := by
    simp [IntKind.wrap, IntKind.bits, IntKind.signed]
  rw [e]; split <;> omega
theorem inR_nat {k n : Nat} : inR (k : Int) n = decide (k < n) := by simp [inR]
theorem inR_true {k n : Nat} (h : k < n) : inR (k : Int) n = true := by simp [inR_nat, h]
theorem wrap_succ {k n : Nat} (h : k < n) (hn : n < 4611686018427387904) : IntKind.wrap .i64 ((k : Int) + (1 : Int)) = ((k + 1 : Nat) : Int) := by
  rw [wrap64] <;> omega
theorem lt_cast {k n : Nat} : (decide ((k : Int) < (n : Int))) = decide (k < n) := by simp
theorem getD_at {α : Type} {l : List α} {k : Nat} {z : α} (h : k < l.length) : l.getD k z = l[k] := by simp [List.getD, h]
theorem int_beq (a b : Int) : (a == b) = decide (a = b) := by by_cases h : a = b <;> simp [h]
theorem int_bne (a b : Int) : (a != b) = !decide (a = b) := by by_cases h : a = b <;> simp [bne, h]
/-! ### texts -/
theorem data_len (s : ByteArray) : s.data.toList.length = s.size := by rw [Array.length_toList]; rfl
theorem toList_data (s : ByteArray) : s.toList = s.data.toList := by
  have h : ∀ (n i : Nat) (r : List UInt8), s.size - i = n → ByteArray.toList.loop s i r = r.reverse ++ s.data.toList.drop i := by
    intro n
    induction n with
    | zero =>
      intro i r h
      unfold ByteArray.toList.loop
      rw [if_neg (by omega)]
      have : s.data.toList.length ≤ i := by rw [data_len]; omega
      simp [List.drop_eq_nil_of_le this]
    | succ n ih =>
      intro i r h
      unfold ByteArray.toList.loop
      rw [if_pos (by omega), ih (i + 1) _ (by omega)]
      have hi : i < s.data.toList.length := by rw [data_len]; omega
      rw [List.drop_eq_getElem_cons hi]
      have : s.get! i = s.data.toList[i] := by
        have hi' : i < s.data.size := by simpa using hi
        rw [ByteArray.get!, Array.getElem!_eq_getD]
        simp only [Array.getD, hi', dite_true]
        rfl
      simp [this]
  simpa [ByteArray.toList] using h s.size 0 [] (by omega)
theorem text_ext {a b : ByteArray} (h : a.data.toList = b.data.toList) : a = b := by
  obtain ⟨⟨a⟩⟩ := a; obtain ⟨⟨b⟩⟩ := b; simpa using h
theorem text_eq (a b : ByteArray) : (a.toList == b.toList) = decide (a = b) := by
  rw [toList_data, toList_data]
  by_cases h : a = b
  · subst h; simp
  · have : ¬ a.data.toList = b.data.toList := fun e => h (text_ext e)
    rw [decide_eq_false h]; exact beq_eq_false_iff_ne.mpr this
theorem text_eq' (a b : ByteArray) : (a.toList = b.toList) = (a = b) := by
  rw [toList_data, toList_data]
  exact propext ⟨text_ext, fun h => by rw [h]⟩
/-! ### loops over lists -/
theorem drop_cons {α : Type} {l : List α} {k : Nat} {x : α} {t : List α} (h : l.drop k = x :: t) (z : α) : k < l.length ∧ l.getD k z = x ∧ l.drop (k + 1) = t := by
  have hk : k < l.length := by
    rcases Nat.lt_or_ge k l.length with h' | h'
    · exact h'
    · rw [List.drop_eq_nil_of_le h'] at h; cases h
  rw [List.drop_eq_getElem_cons hk] at h
  obtain ⟨h1, h2⟩ := List.cons.inj h
  exact ⟨hk, by simp [List.getD, hk, h1], h2⟩
/-- a loop that goes along a list -/
theorem along {α S T : Type} (l : List α) (L : Nat → Nat → S → T) (G : List α → S → T) (hnil : ∀ j s, L (j + 1) l.length s = G [] s)
    (hcons : ∀ j k x t s, l.drop k = x :: t → k < l.length → (∀ s, L j (k + 1) s = G t s) → L (j + 1) k s = G (x :: t) s) :
    ∀ (t : List α) (j k : Nat) (s : S), l.drop k = t → k ≤ l.length → t.length < j → L j k s = G t s
  | [], j + 1, k, s, hd, hk, _ => by
    have : k = l.length := by
      rcases Nat.lt_or_ge k l.length with h' | h'
      · rw [List.drop_eq_getElem_cons h'] at hd; cases hd
      · omega
    subst this; exact hnil j s
  | x :: t, j + 1, k, s, hd, hk, hj => by
    have h := drop_cons hd x
    exact hcons j k x t s hd h.1 fun s => along l L G hnil hcons t j (k + 1) s h.2.2 (by omega) (by simp at hj; omega)
theorem along0 {α S T : Type} (l : List α) (L : Nat → Nat → S → T) (G : List α → S → T) {j : Nat} (hj : l.length < j) (s : S) (hnil : ∀ j s, L (j + 1) l.length s = G [] s)
    (hcons : ∀ j k x t s, l.drop k = x :: t → k < l.length → (∀ s, L j (k + 1) s = G t s) → L (j + 1) k s = G (x :: t) s) : L j 0 s = G l s :=
  along l L G hnil hcons l j 0 s rfl (by omega) hj
theorem set_take {α : Type} {s : List α} {k : Nat} {x : α} (h : k < s.length) (t : List α) : (s.set k x).take (k + 1) ++ t = s.take k ++ x :: t := by
  induction s generalizing k with
  | nil => simp at h
  | cons a s ih =>
    cases k with
    | zero => simp
    | succ k => simp at h; simp [ih h]
/-- a list is written anew, place by place -/
theorem copy_loop {α β : Type} (l : List α) (f : α → β) (L : Nat → Nat → List β → Option (List β)) (hexit : ∀ j s, L (j + 1) l.length s = some s)
    (hstep : ∀ j k s (h : k < l.length), s.length = l.length → L (j + 1) k s = L j (k + 1) (s.set k (f l[k]))) : ∀ (t : List α) (j k : Nat) (s : List β), l.drop k = t → k ≤ l.length → t.length < j → s.length = l.length → L j k s = some (s.take k ++ t.map f)
  | [], j + 1, k, s, hd, hk, _, hs => by
    have : k = l.length := by
      rcases Nat.lt_or_ge k l.length with h' | h'
      · rw [List.drop_eq_getElem_cons h'] at hd; cases hd
      · omega
    subst this
    rw [hexit, List.take_of_length_le (by omega)]; simp
  | x :: t, j + 1, k, s, hd, hk, hj, hs => by
    obtain ⟨h1, h2, h3⟩ := drop_cons hd x
    rw [hstep j k s h1 hs, copy_loop l f L hexit hstep t j (k + 1) _ h3 (by omega) (by simp at hj; omega) (by simpa using hs)]
    have hx : l[k] = x := by simpa [List.getD, h1] using h2
    rw [set_take (by omega), hx]; rfl
theorem copy_loop0 {α β : Type} (l : List α) (f : α → β) (L : Nat → Nat → List β → Option (List β)) {j : Nat} {s : List β} (hj : l.length < j) (hs : s.length = l.length) (hexit : ∀ j s, L (j + 1) l.length s = some s)
    (hstep : ∀ j k s (h : k < l.length), s.length = l.length → L (j + 1) k s = L j (k + 1) (s.set k (f l[k]))) : L j 0 s = some (l.map f) := by
  rw [copy_loop l f L hexit hstep l j 0 s rfl (by omega) hj hs]; simp
theorem bt_at {s : ByteArray} {k : Nat} (h : k < s.size) : bt s (k : Int) = ((s.data.toList[k]'(by rw [data_len]; exact h)).toNat : Int) := by
  simp only [bt, Int.toNat_natCast, h, dite_true]; rfl
theorem bt_drop {s : ByteArray} {k : Nat} {x : UInt8} {t : List UInt8} (h : s.data.toList.drop k = x :: t) : k < s.size ∧ bt s (k : Int) = (x.toNat : Int) := by
  obtain ⟨h1, h2, _⟩ := drop_cons h x
  have h3 : k < s.size := by rw [← data_len]; exact h1
  refine ⟨h3, ?_⟩
  rw [bt_at h3]
  rw [getD_at h1] at h2; rw [h2]
/-- a loop along a text -/
theorem alongT {S T : Type} (s : ByteArray) (L : Nat → Nat → S → T) (G : List UInt8 → S → T) (hnil : ∀ j st, L (j + 1) s.size st = G [] st)
    (hcons : ∀ j k x t st, s.data.toList.drop k = x :: t → k < s.size → bt s (k : Int) = (x.toNat : Int) → (∀ st, L j (k + 1) st = G t st) → L (j + 1) k st = G (x :: t) st) {j : Nat} (hj : s.size < j) (st : S) : L j 0 st = G s.data.toList st := by
  refine along0 s.data.toList L G (by rw [data_len]; exact hj) st (fun j st => by rw [data_len]; exact hnil j st) fun j k x t st hd hk ih => ?_
  obtain ⟨h1, h2⟩ := bt_drop hd
  exact hcons j k x t st hd h1 h2 ih
/-! ### sizes -/
def szR (c : Nat) (l : Int) : Int := if l < c then -1 else l - c
def big : Int := 1152921504606846976
theorem sz_str {r : Int → Option Int} {l : Int} {m c : Nat} (h0 : 0 ≤ l) (h1 : l ≤ big) (hm : (m : Int) ≤ big) (h : ∀ l', 0 ≤ l' → l' ≤ big → r l' = some (szR c l')) :
    (let v : Int := IntKind.wrap .i64 (l - (m : Int)); bif decide (v < (0 : Int)) then some (-1 : Int) else r v) = some (szR (m + c) l) := by
  simp only [big] at *
  rw [wrap64 (by omega) (by omega)]
  by_cases hl : l - (m : Int) < 0
  · rw [decide_eq_true hl, cond_true, szR, if_pos (by omega)]
  · rw [decide_eq_false hl, cond_false, h _ (by omega) (by omega)]
    simp only [szR]
    congr 1
    split <;> split <;> omega
theorem sz_call {r : Int → Option Int} {f : Option Int} {l : Int} {m c : Nat} (h0 : 0 ≤ l) (h1 : l ≤ big) (hf : f = some (szR m l)) (h : ∀ l', 0 ≤ l' → l' ≤ big → r l' = some (szR c l')) :
    (f.bind fun v => bif decide (v < (0 : Int)) then some (-1 : Int) else r v) = some (szR (m + c) l) := by
  rw [hf, Option.bind_some]
  by_cases hl : l < m
  · have : szR m l = -1 := if_pos hl
    rw [this, decide_eq_true (by omega), cond_true, szR, if_pos (by omega)]
  · have : szR m l = l - m := if_neg hl
    rw [this, decide_eq_false (by omega), cond_false, h _ (by omega) (by omega)]
    simp only [szR]
    congr 1
    split <;> split <;> omega
theorem sz_end {l : Int} (h0 : 0 ≤ l) : some l = some (szR 0 l) := by simp only [szR]; rw [if_neg (by omega)]; simp
theorem sz_loop {α : Type} (l : List α) (c : α → Nat) (L : Nat → Nat → Int → Option Int) (hexit : ∀ j s, L (j + 1) l.length s = some s)
    (hstep : ∀ j k s (h : k < l.length), 0 ≤ s → s ≤ big → L (j + 1) k s = if s < (c l[k] : Int) then some (-1) else L j (k + 1) (s - (c l[k] : Int))) :
    ∀ (t : List α) (j k : Nat) (s : Int), l.drop k = t → k ≤ l.length → t.length < j → 0 ≤ s → s ≤ big → L j k s = some (szR (t.map c).sum s)
  | [], j + 1, k, s, hd, hk, _, h0, h1 => by
    have : k = l.length := by
      rcases Nat.lt_or_ge k l.length with h' | h'
      · rw [List.drop_eq_getElem_cons h'] at hd; cases hd
      · omega
    subst this
    rw [hexit]; exact sz_end h0
  | x :: t, j + 1, k, s, hd, hk, hj, h0, h1 => by
    obtain ⟨h2, h3, h4⟩ := drop_cons hd x
    have hx : l[k] = x := by simpa [List.getD, h2] using h3
    rw [hstep j k s h2 h0 h1, hx]
    simp only [List.map_cons, List.sum_cons]
    split
    · rw [szR, if_pos (by omega)]
    · rw [sz_loop l c L hexit hstep t j (k + 1) _ h4 (by omega) (by simp at hj; omega) (by omega) (by omega)]
      simp only [szR]
      congr 1
      split <;> split <;> omega
theorem le_sum {α : Type} {f : α → Nat} : ∀ {l : List α} {x : α}, x ∈ l → f x ≤ (l.map f).sum
  | a :: l, x, h => by
    simp only [List.map_cons, List.sum_cons]
    rcases List.mem_cons.mp h with rfl | h
    · omega
    · have := le_sum (f := f) h; omega
theorem szR_step {c : Nat} {s : Int} (R : Int → Option Int) (b : Option Int) (h0 : 0 ≤ s) : (bif decide (szR c s < 0) then b else R (szR c s)) = if s < (c : Int) then b else R (s - (c : Int)) := by
  by_cases h : s < (c : Int)
  · have : szR c s = -1 := if_pos h
    rw [this, if_pos h]; rfl
  · have : szR c s = s - c := if_neg h
    rw [this, if_neg h, decide_eq_false (by omega)]; rfl
theorem eq_step {α : Type} [DecidableEq α] (x y : α) (R : Option Bool) : (bif !decide (x = y) then some false else R) = if x = y then R else some false := by
  by_cases h : x = y <;> simp [h]
theorem eq_step2 (x y : Int) (R : Option Bool) : (bif x != y then some false else R) = if x = y then R else some false := by
  by_cases h : x = y
  · subst h; simp
  · rw [if_neg h, show (x != y) = true by simpa using h]; rfl
theorem eq_step3 (x y : Bool) (R : Option Bool) : (bif !(x == y) then some false else R) = if x = y then R else some false := by
  cases x <;> cases y <;> rfl
theorem eq_last {p : Prop} [Decidable p] : (if p then some true else some false) = some (decide p) := by by_cases h : p <;> simp [h]
theorem eq_and {p q : Prop} [Decidable p] [Decidable q] : (if p then some (decide q) else some false) = some (decide (p ∧ q)) := by by_cases h : p <;> simp [h]
theorem str_step {c : Nat} {s : Int} (a b : Option Int) : (bif decide (s - (c : Int) < 0) then a else b) = if s < (c : Int) then a else b := by
  by_cases h : s < (c : Int)
  · rw [if_pos h, decide_eq_true (by omega)]; rfl
  · rw [if_neg h, decide_eq_false (by omega)]; rfl
theorem eq_end : ∀ b : Bool, (bif !b then some false else some true) = some b := by intro b; cases b <;> rfl
theorem bif_ite {α : Type} {p : Prop} [Decidable p] {q : Prop} [Decidable q] (h : p ↔ q) (a b : α) : (bif decide p then a else b) = if q then a else b := by
  by_cases hp : p <;> simp [hp, h.mp, ← h]
/-! ### lists compared -/
theorem eq_loop {α : Type} [DecidableEq α] (l m : List α) (hlm : l.length = m.length) (L : Nat → Nat → Option Bool) (hexit : ∀ j, L (j + 1) l.length = some true)
    (hstep : ∀ j k (h : k < l.length) (h' : k < m.length), L (j + 1) k = if l[k] = m[k] then L j (k + 1) else some false) :
    ∀ (t : List α) (j k : Nat), l.drop k = t → k ≤ l.length → t.length < j → L j k = some (decide (t = m.drop k))
  | [], j + 1, k, hd, hk, _ => by
    have : k = l.length := by
      rcases Nat.lt_or_ge k l.length with h' | h'
      · rw [List.drop_eq_getElem_cons h'] at hd; cases hd
      · omega
    subst this
    rw [hexit, List.drop_eq_nil_of_le (by omega)]; simp
  | x :: t, j + 1, k, hd, hk, hj => by
    obtain ⟨h2, h3, h4⟩ := drop_cons hd x
    have hx : l[k] = x := by simpa [List.getD, h2] using h3
    rw [hstep j k h2 (by omega), hx, List.drop_eq_getElem_cons (show k < m.length by omega)]
    split
    · rename_i e
      rw [eq_loop l m hlm L hexit hstep t j (k + 1) h4 (by omega) (by simp at hj; omega)]
      congr 1; exact decide_eq_decide.mpr ⟨fun h => by rw [e, h], fun h => (List.cons.inj h).2⟩
    · rename_i e
      congr 1; exact (decide_eq_false fun h => e (List.cons.inj h).1).symm
/-! ### searches -/
def idxFrom {α : Type} (p : α → Bool) : List α → Nat → Int
  | [], _ => -1
  | x :: t, k => if p x = true then (k : Int) else idxFrom p t (k + 1)
def idx {α : Type} (p : α → Bool) (l : List α) : Int := idxFrom p l 0
theorem find_loop {α : Type} (p : α → Bool) (l : List α) (L : Nat → Nat → Option Int) (hexit : ∀ j, L (j + 1) l.length = some (-1))
    (hstep : ∀ j k (h : k < l.length), L (j + 1) k = if p l[k] = true then some (k : Int) else L j (k + 1)) :
    ∀ (t : List α) (j k : Nat), l.drop k = t → k ≤ l.length → t.length < j → L j k = some (idxFrom p t k)
  | [], j + 1, k, hd, hk, _ => by
    have : k = l.length := by
      rcases Nat.lt_or_ge k l.length with h' | h'
      · rw [List.drop_eq_getElem_cons h'] at hd; cases hd
      · omega
    subst this; rw [hexit]; rfl
  | x :: t, j + 1, k, hd, hk, hj => by
    obtain ⟨h2, h3, h4⟩ := drop_cons hd x
    have hx : l[k] = x := by simpa [List.getD, h2] using h3
    rw [hstep j k h2, hx, find_loop p l L hexit hstep t j (k + 1) h4 (by omega) (by simp at hj; omega)]
    simp only [idxFrom]; split <;> rfl
theorem all_loop {α : Type} (p : α → Bool) (l : List α) (L : Nat → Nat → Option Bool) (r : Option Bool) (hexit : ∀ j, L (j + 1) l.length = r)
    (hstep : ∀ j k (h : k < l.length), L (j + 1) k = if p l[k] = true then L j (k + 1) else some false) :
    ∀ (t : List α) (j k : Nat), l.drop k = t → k ≤ l.length → t.length < j → L j k = if t.all p = true then r else some false
  | [], j + 1, k, hd, hk, _ => by
    have : k = l.length := by
      rcases Nat.lt_or_ge k l.length with h' | h'
      · rw [List.drop_eq_getElem_cons h'] at hd; cases hd
      · omega
    subst this; rw [hexit]; rfl
  | x :: t, j + 1, k, hd, hk, hj => by
    obtain ⟨h2, h3, h4⟩ := drop_cons hd x
    have hx : l[k] = x := by simpa [List.getD, h2] using h3
    rw [hstep j k h2, hx, all_loop p l L r hexit hstep t j (k + 1) h4 (by omega) (by simp at hj; omega)]
    by_cases hp : p x = true <;> simp [hp]
theorem bif_step {b : Bool} {α : Type} (x y : α) : (bif !b then y else x) = if b = true then x else y := by cases b <;> rfl
theorem bif_step' {b : Bool} {α : Type} (x y : α) : (bif b then x else y) = if b = true then x else y := by cases b <;> rfl
theorem idx_bound {α : Type} (p : α → Bool) : ∀ (l : List α) (k : Nat), idxFrom p l k = -1 ∨ ((k : Int) ≤ idxFrom p l k ∧ idxFrom p l k < (k + l.length : Nat))
  | [], k => .inl rfl
  | x :: t, k => by
    simp only [idxFrom]
    split
    · right; simp only [List.length_cons]; omega
    · rcases idx_bound p t (k + 1) with h | h
      · exact .inl h
      · right; simp only [List.length_cons]; omega
theorem idx_lt {α : Type} (p : α → Bool) (l : List α) : -1 ≤ idx p l ∧ idx p l < (l.length : Int) := by
  rcases idx_bound p l 0 with h | h
  · unfold idx; rw [h]; omega
  · unfold idx; omega
def allFrom {α : Type} (p : α → Nat → Bool) : List α → Nat → Bool
  | [], _ => true
  | x :: t, k => p x k && allFrom p t (k + 1)
theorem allFrom_loop {α : Type} (p : α → Nat → Bool) (l : List α) (L : Nat → Nat → Option Bool) (r : Option Bool) (hexit : ∀ j, L (j + 1) l.length = r)
    (hstep : ∀ j k (h : k < l.length), L (j + 1) k = if p l[k] k = true then L j (k + 1) else some false) :
    ∀ (t : List α) (j k : Nat), l.drop k = t → k ≤ l.length → t.length < j → L j k = if allFrom p t k = true then r else some false
  | [], j + 1, k, hd, hk, _ => by
    have : k = l.length := by
      rcases Nat.lt_or_ge k l.length with h' | h'
      · rw [List.drop_eq_getElem_cons h'] at hd; cases hd
      · omega
    subst this; rw [hexit]; rfl
  | x :: t, j + 1, k, hd, hk, hj => by
    obtain ⟨h2, h3, h4⟩ := drop_cons hd x
    have hx : l[k] = x := by simpa [List.getD, h2] using h3
    rw [hstep j k h2, hx, allFrom_loop p l L r hexit hstep t j (k + 1) h4 (by omega) (by simp at hj; omega)]
    by_cases hp : p x k = true <;> simp [hp, allFrom]
def runs {α S : Type} (f : α → S → Option S) : List α → S → Option S
  | [], s => some s
  | x :: t, s => (f x s).bind (runs f t)
def after {S T : Type} (o : Option S) (X : T) (R : S → T) : T := match o with
  | some s => R s
  | none => X
theorem run_loop {α S T : Type} (l : List α) (f : α → S → Option S) (L : Nat → Nat → S → T) (R : S → T) (X : T) (Inv : S → Prop) (hinv : ∀ x ∈ l, ∀ s s', Inv s → f x s = some s' → Inv s')
    (hexit : ∀ j s, Inv s → L (j + 1) l.length s = R s) (hstep : ∀ j k s (h : k < l.length), Inv s → L (j + 1) k s = after (f l[k] s) X fun s' => L j (k + 1) s') :
    ∀ (t : List α) (j k : Nat) (s : S), l.drop k = t → k ≤ l.length → t.length < j → Inv s → L j k s = after (runs f t s) X R
  | [], j + 1, k, s, hd, hk, _, hs => by
    have : k = l.length := by
      rcases Nat.lt_or_ge k l.length with h' | h'
      · rw [List.drop_eq_getElem_cons h'] at hd; cases hd
      · omega
    subst this; rw [hexit _ _ hs]; rfl
  | x :: t, j + 1, k, s, hd, hk, hj, hs => by
    obtain ⟨h2, h3, h4⟩ := drop_cons hd x
    have hx : l[k] = x := by simpa [List.getD, h2] using h3
    rw [hstep j k s h2 hs, hx]
    simp only [runs]
    cases hf : f x s with
    | none => rfl
    | some s' => exact run_loop l f L R X Inv hinv hexit hstep t j (k + 1) s' h4 (by omega) (by simp at hj; omega) (hinv x (by rw [← hx]; exact List.getElem_mem h2) s s' hs hf)
theorem le_big {l : Int} (h : l ≤ 1048576) : l ≤ big := by simp only [big]; omega
theorem law_sz {r : Int → Option Bool} {f : Option Int} {l : Int} {m : Nat} (hf : f = some (szR m l)) (h0 : 0 ≤ l) (h1 : l ≤ 1048576) (h : m ≤ 1048576 → ∀ l', 0 ≤ l' → l' ≤ 1048576 → r l' = some true) :
    (f.bind fun v => bif decide (v < (0 : Int)) then some true else r v) = some true := by
  rw [hf, Option.bind_some]
  by_cases hl : l < m
  · have : szR m l = -1 := if_pos hl
    rw [this]; rfl
  · have : szR m l = l - m := if_neg hl
    rw [this, decide_eq_false (by omega), cond_false]
    exact h (by omega) _ (by omega) (by omega)
theorem law_str {r : Option Bool} {m : Nat} (h : m ≤ 1048576 → r = some true) : (let v : Bool := decide ((1048576 : Int) < (m : Int)); bif v then some true else r) = some true := by
  by_cases hl : (1048576 : Int) < (m : Int)
  · simp [hl]
  · simp only [decide_eq_false hl, cond_false]; exact h (by omega)
abbrev T_Val := Int × (Int × (ByteArray))
instance i_Val : DecidableEq T_Val := @instDecidableEqProd _ _ inferInstance (@instDecidableEqProd _ _ inferInstance (inferInstance))
def cost_Val (x : T_Val) : Nat := x.2.2.size + (0)
def sm_Val (k : Nat) (x : T_Val) : Prop := x.2.2.size ≤ k
theorem cost_sm_Val {k : Nat} {x : T_Val} (h : cost_Val x ≤ k) : sm_Val k x := by
  unfold cost_Val at h
  unfold sm_Val
  exact by omega
theorem toVal_ok : EV fun n => ∀ x : T_Val, sm_Val 1048576 x → laws_toVal n x.1 x.2.1 x.2.2 = some x := EV.true.up fun n h x hs => by
  unfold sm_Val at hs
  simp only [laws_toVal, Option.bind_some]
theorem szVal_ok : EV fun n => ∀ (x : T_Val) (l : Int), sm_Val 140737488355328 x → 0 ≤ l → l ≤ big → laws_szVal n x.1 x.2.1 x.2.2 l = some (szR (cost_Val x) l) := EV.true.up fun n h x l0 hs g0 g1 => by
  unfold sm_Val at hs
  rw [laws_szVal]
  unfold cost_Val
  exact sz_str (m := x.2.2.size) g0 g1 (by have := hs; simp only [big]; omega) fun l1 g2 g3 => sz_end g2
theorem eqVal_ok : EV fun n => ∀ (x y : T_Val), sm_Val 1048576 x → laws_eqVal n x.1 x.2.1 x.2.2 y.1 y.2.1 y.2.2 = some (decide (x = y)) := EV.true.up fun n h x y hs => by
  unfold sm_Val at hs
  simp only [laws_eqVal, Option.bind_some, text_eq]
  obtain ⟨x0 , x1 , x2⟩ := x
  obtain ⟨y0 , y1 , y2⟩ := y
  simp only [eq_step, eq_step2, eq_step3, eq_last, eq_and]
  exact congrArg some (decide_eq_decide.mpr (by simp only [Prod.mk.injEq]))
abbrev T_ValS := List T_Val
def cost_ValS (x : T_ValS) : Nat := x.length + (x.map (cost_Val)).sum
def sm_ValS (k : Nat) (l : T_ValS) : Prop := l.length ≤ k ∧ ∀ x ∈ l, sm_Val k x
theorem cost_sm_ValS {k : Nat} {l : T_ValS} (h : cost_ValS l ≤ k) : sm_ValS k l := by
  unfold cost_ValS at h
  unfold sm_ValS
  refine ⟨by omega, fun x hx => ?_⟩
  have := le_sum (f := cost_Val) hx
  exact cost_sm_Val (by omega)
theorem toValS_ok : EV fun n => ∀ l : T_ValS, sm_ValS 1048576 l → laws_toValS n l = some l := (toVal_ok.and (EV.gt 1048576)).up fun n h l hl => by
  have hlen := hl.1
  have hroom : (decide ((l.length : Int) = (l.length : Int) ∧ 0 ≤ (l.length : Int)) && room (l.length : Int).toNat 32) = true := by simp [room]; omega
  rw [laws_toValS, hroom]
  simp only [cond_true]
  refine (copy_loop0 (j := n) l id (fun j k s => laws_toValS_L1 n j l (k : Int) s) (by omega) (by simp) (fun j s => by simp only [laws_toValS_L1, lt_cast, Nat.lt_irrefl, decide_false, cond_false]) (fun j k s hk hs => ?_)).trans (by simp)
  have hks : k < s.length := by omega
  have e : laws_toVal n l[k].1 l[k].2.1 l[k].2.2 = some l[k] := h.1 (l[k]) (hl.2 _ (List.getElem_mem hk))
  simp only [laws_toValS_L1, lt_cast, decide_eq_true hk, inR_true hk, Int.toNat_natCast, getD_at hk, cond_true, wrap_succ hk (by omega), inR_true hks, Option.bind_some, id, e]
theorem szValS_ok : EV fun n => ∀ (l : T_ValS) (s : Int), sm_ValS 140737488355328 l → 0 ≤ s → s ≤ big → laws_szValS n l s = some (szR (cost_ValS l) s) := (szVal_ok.and (EV.gt 140737488355328)).up fun n h l s hl g0 g1 => by
  have hlen := hl.1
  rw [laws_szValS]
  unfold cost_ValS
  refine sz_str (r := fun s => laws_szValS_L1 n n l s (0 : Int)) (m := l.length) g0 g1 (by simp only [big]; omega) fun s g0 g1 => ?_
  refine sz_loop l _ (fun j k s => laws_szValS_L1 n j l s (k : Int)) (fun j s => by simp only [laws_szValS_L1, lt_cast, Nat.lt_irrefl, decide_false, cond_false]) (fun j k s hk h0 h1 => ?_) l n 0 s rfl (by omega) (by omega) g0 g1
  have e : laws_szVal n l[k].1 l[k].2.1 l[k].2.2 s = some (szR (cost_Val l[k]) s) := h.1 (l[k]) s (hl.2 _ (List.getElem_mem hk)) h0 h1
  simp only [laws_szValS_L1, lt_cast, decide_eq_true hk, inR_true hk, Int.toNat_natCast, getD_at hk, cond_true, wrap_succ hk (by omega), e, Option.bind_some]
  exact szR_step (fun s => laws_szValS_L1 n j l s ((k + 1 : Nat) : Int)) _ h0
theorem eqValS_ok : EV fun n => ∀ (l m : T_ValS), sm_ValS 1048576 l → laws_eqValS n l m = some (decide (l = m)) := (eqVal_ok.and (EV.gt 1048576)).up fun n h l m hl => by
  have hlen := hl.1
  rw [laws_eqValS]
  by_cases hlm : l.length = m.length
  · have : ((l.length : Int) != (m.length : Int)) = false := by simp [hlm]
    simp only [this, cond_false]
    refine (eq_loop l m hlm (fun j k => laws_eqValS_L1 n j l m (k : Int)) (fun j => by simp only [laws_eqValS_L1, lt_cast, Nat.lt_irrefl, decide_false, cond_false]) (fun j k hk hk2 => ?_) l n 0 rfl (by omega) (by omega)).trans (by simp)
    have e : laws_eqVal n l[k].1 l[k].2.1 l[k].2.2 m[k].1 m[k].2.1 m[k].2.2 = some (decide (l[k] = m[k])) := h.1 (l[k]) (m[k]) (hl.2 _ (List.getElem_mem hk))
    simp only [laws_eqValS_L1, lt_cast, decide_eq_true hk, inR_true hk, Int.toNat_natCast, getD_at hk, cond_true, wrap_succ hk (by omega), getD_at hk2, inR_true hk2, e, Option.bind_some]
    exact eq_step (l[k]) (m[k]) _
  · have : ((l.length : Int) != (m.length : Int)) = true := by simp; omega
    simp only [this, cond_true]
    congr 1; exact (decide_eq_false fun h => hlm (by rw [h])).symm
abbrev T_Row := T_ValS
def cost_Row (x : T_Row) : Nat := cost_ValS x + (0)
def sm_Row (k : Nat) (x : T_Row) : Prop := sm_ValS k x
theorem cost_sm_Row {k : Nat} {x : T_Row} (h : cost_Row x ≤ k) : sm_Row k x := by
  unfold cost_Row at h
  unfold sm_Row
  exact cost_sm_ValS (by omega)
theorem toRow_ok : EV fun n => ∀ x : T_Row, sm_Row 1048576 x → laws_toRow n x = some x := (toValS_ok.and EV.true).up fun n h x hs => by
  unfold sm_Row at hs
  have e0 : laws_toValS n x = some x := h.1 x (hs)
  simp only [laws_toRow, e0, Option.bind_some]
theorem szRow_ok : EV fun n => ∀ (x : T_Row) (l : Int), sm_Row 140737488355328 x → 0 ≤ l → l ≤ big → laws_szRow n x l = some (szR (cost_Row x) l) := (szValS_ok.and EV.true).up fun n h x l0 hs g0 g1 => by
  unfold sm_Row at hs
  rw [laws_szRow]
  unfold cost_Row
  exact sz_call g0 g1 (h.1 x l0 (hs) g0 g1) fun l1 g2 g3 => sz_end g2
theorem eqRow_ok : EV fun n => ∀ (x y : T_Row), sm_Row 1048576 x → laws_eqRow n x y = some (decide (x = y)) := (eqValS_ok.and EV.true).up fun n h x y hs => by
  unfold sm_Row at hs
  have e0 : laws_eqValS n x y = some (decide (x = y)) := h.1 x y (hs)
  simp only [laws_eqRow, e0, Option.bind_some, text_eq]
  exact eq_end _
abbrev T_RowS := List T_Row
def cost_RowS (x : T_RowS) : Nat := x.length + (x.map (cost_Row)).sum
def sm_RowS (k : Nat) (l : T_RowS) : Prop := l.length ≤ k ∧ ∀ x ∈ l, sm_Row k x
theorem cost_sm_RowS {k : Nat} {l : T_RowS} (h : cost_RowS l ≤ k) : sm_RowS k l := by
  unfold cost_RowS at h
  unfold sm_RowS
  refine ⟨by omega, fun x hx => ?_⟩
  have := le_sum (f := cost_Row) hx
  exact cost_sm_Row (by omega)
theorem toRowS_ok : EV fun n => ∀ l : T_RowS, sm_RowS 1048576 l → laws_toRowS n l = some l := (toRow_ok.and (EV.gt 1048576)).up fun n h l hl => by
  have hlen := hl.1
  have hroom : (decide ((l.length : Int) = (l.length : Int) ∧ 0 ≤ (l.length : Int)) && room (l.length : Int).toNat 24) = true := by simp [room]; omega
  rw [laws_toRowS, hroom]
  simp only [cond_true]
  refine (copy_loop0 (j := n) l id (fun j k s => laws_toRowS_L1 n j l (k : Int) s) (by omega) (by simp) (fun j s => by simp only [laws_toRowS_L1, lt_cast, Nat.lt_irrefl, decide_false, cond_false]) (fun j k s hk hs => ?_)).trans (by simp)
  have hks : k < s.length := by omega
  have e : laws_toRow n l[k] = some l[k] := h.1 (l[k]) (hl.2 _ (List.getElem_mem hk))
  simp only [laws_toRowS_L1, lt_cast, decide_eq_true hk, inR_true hk, Int.toNat_natCast, getD_at hk, cond_true, wrap_succ hk (by omega), inR_true hks, Option.bind_some, id, e]
theorem szRowS_ok : EV fun n => ∀ (l : T_RowS) (s : Int), sm_RowS 140737488355328 l → 0 ≤ s → s ≤ big → laws_szRowS n l s = some (szR (cost_RowS l) s) := (szRow_ok.and (EV.gt 140737488355328)).up fun n h l s hl g0 g1 => by
  have hlen := hl.1
  rw [laws_szRowS]
  unfold cost_RowS
  refine sz_str (r := fun s => laws_szRowS_L1 n n l s (0 : Int)) (m := l.length) g0 g1 (by simp only [big]; omega) fun s g0 g1 => ?_
  refine sz_loop l _ (fun j k s => laws_szRowS_L1 n j l s (k : Int)) (fun j s => by simp only [laws_szRowS_L1, lt_cast, Nat.lt_irrefl, decide_false, cond_false]) (fun j k s hk h0 h1 => ?_) l n 0 s rfl (by omega) (by omega) g0 g1
  have e : laws_szRow n l[k] s = some (szR (cost_Row l[k]) s) := h.1 (l[k]) s (hl.2 _ (List.getElem_mem hk)) h0 h1
  simp only [laws_szRowS_L1, lt_cast, decide_eq_true hk, inR_true hk, Int.toNat_natCast, getD_at hk, cond_true, wrap_succ hk (by omega), e, Option.bind_some]
  exact szR_step (fun s => laws_szRowS_L1 n j l s ((k + 1 : Nat) : Int)) _ h0
theorem eqRowS_ok : EV fun n => ∀ (l m : T_RowS), sm_RowS 1048576 l → laws_eqRowS n l m = some (decide (l = m)) := (eqRow_ok.and (EV.gt 1048576)).up fun n h l m hl => by
  have hlen := hl.1
  rw [laws_eqRowS]
  by_cases hlm : l.length = m.length
  · have : ((l.length : Int) != (m.length : Int)) = false := by simp [hlm]
    simp only [this, cond_false]
    refine (eq_loop l m hlm (fun j k => laws_eqRowS_L1 n j l m (k : Int)) (fun j => by simp only [laws_eqRowS_L1, lt_cast, Nat.lt_irrefl, decide_false, cond_false]) (fun j k hk hk2 => ?_) l n 0 rfl (by omega) (by omega)).trans (by simp)
    have e : laws_eqRow n l[k] m[k] = some (decide (l[k] = m[k])) := h.1 (l[k]) (m[k]) (hl.2 _ (List.getElem_mem hk))
    simp only [laws_eqRowS_L1, lt_cast, decide_eq_true hk, inR_true hk, Int.toNat_natCast, getD_at hk, cond_true, wrap_succ hk (by omega), getD_at hk2, inR_true hk2, e, Option.bind_some]
    exact eq_step (l[k]) (m[k]) _
  · have : ((l.length : Int) != (m.length : Int)) = true := by simp; omega
    simp only [this, cond_true]
    congr 1; exact (decide_eq_false fun h => hlm (by rw [h])).symm
theorem wf_str {n : Nat} (h : n ≤ reachBytes) : n ≤ 140737488355328 := Nat.le_trans h (by decide)
theorem wf_len {n b : Nat} (hb : 1 ≤ b) (h : n * b ≤ reachBytes) : n ≤ 140737488355328 := Nat.le_trans (Nat.le_trans (Nat.le_mul_of_pos_right n hb) h) (by decide)
abbrev K_Val : Kd := .pair (.int .i64) (.pair (.int .i64) (.str))
theorem wf_Val {B : Kd → Nat} (hB : ∀ g, 1 ≤ B g) (x : T_Val) (h : Wf B K_Val x) : sm_Val 140737488355328 x := wf_str h.2.2
abbrev K_ValS : Kd := .sl K_Val
theorem wf_ValS {B : Kd → Nat} (hB : ∀ g, 1 ≤ B g) (x : T_ValS) (h : Wf B K_ValS x) : sm_ValS 140737488355328 x := ⟨wf_len (hB _) h.1, fun y hy => wf_Val hB y (h.2 y hy)⟩
abbrev K_Row : Kd := K_ValS
theorem wf_Row {B : Kd → Nat} (hB : ∀ g, 1 ≤ B g) (x : T_Row) (h : Wf B K_Row x) : sm_Row 140737488355328 x := wf_ValS hB x h
abbrev K_RowS : Kd := .sl K_Row
theorem wf_RowS {B : Kd → Nat} (hB : ∀ g, 1 ≤ B g) (x : T_RowS) (h : Wf B K_RowS x) : sm_RowS 140737488355328 x := ⟨wf_len (hB _) h.1, fun y hy => wf_Row hB y (h.2 y hy)⟩
abbrev E0 : ByteArray := ⟨#[]⟩
/-! ### words, numbers, values -/
def lower (b : UInt8) : Bool := decide (97 ≤ b.toNat ∧ b.toNat ≤ 122)
def cWordOk (s : ByteArray) : Bool := s.data.toList.all lower && decide (1 ≤ s.size ∧ s.size ≤ 8)
def cValOk (a b : Int) (s : ByteArray) : Bool :=
  if a = 0 then decide (b = 0) && decide (s = E0) else if a = 1 then decide (b = 0 ∨ b = 1) && decide (s = E0) else
  if a = 2 then decide (-1099511627775 ≤ b ∧ b ≤ 1099511627775) && decide (s = E0) else if a = 3 then decide (b = 0) && decide (s.size ≤ 30) else false
def cValLess (x y : T_Val) : Bool :=
  cValOk x.1 x.2.1 x.2.2 && cValOk y.1 y.2.1 y.2.2 && (if x.1 = y.1 then (if x.2.1 = y.2.1 then Op.bytesLess x.2.2.toList y.2.2.toList else decide (x.2.1 < y.2.1)) else decide (x.1 < y.1))
def null : T_Val := (0, 0, E0)
theorem null_eq (a b : Int) (s : ByteArray) : ((a == (0 : Int)) && ((b == (0 : Int)) && (decide (s = E0) && true))) = decide ((a, b, s) = null) := by
  by_cases h1 : a = 0 <;> by_cases h2 : b = 0 <;> by_cases h3 : s = E0 <;> simp [null, h1, h2, h3]
theorem val_eq (x y : T_Val) : ((x.1 == y.1) && ((x.2.1 == y.2.1) && ((x.2.2.toList == y.2.2.toList) && true))) = decide (x = y) := by
  obtain ⟨a, b, s⟩ := x; obtain ⟨c, d, t⟩ := y
  simp only [text_eq, int_beq]
  by_cases h1 : a = c <;> by_cases h2 : b = d <;> by_cases h3 : s = t <;> simp [h1, h2, h3]
theorem spec_l03SameVals_ok : EV fun n => ∀ x y : T_ValS, x.length ≤ 1048576 → spec_l03SameVals n x y = some (decide (x = y)) := (EV.gt 1048576).up fun n hn x y hx => by
  rw [spec_l03SameVals]
  by_cases hl : x.length = y.length
  · have : ((x.length : Int) != (y.length : Int)) = false := by simp [hl]
    simp only [this, cond_false]
    refine (eq_loop x y hl (fun j k => spec_l03SameVals_L1 n j x y (x.length : Int) (k : Int)) (fun j => by simp only [spec_l03SameVals_L1, lt_cast, Nat.lt_irrefl, decide_false, cond_false]) (fun j k hk hk2 => ?_) x n 0 rfl (by omega) (by omega)).trans (by simp)
    simp only [spec_l03SameVals_L1, lt_cast, decide_eq_true hk, inR_true hk, inR_true hk2, Int.toNat_natCast, getD_at hk, getD_at hk2, cond_true, wrap_succ hk (by omega), val_eq]
    exact eq_step _ _ _
  · have : ((x.length : Int) != (y.length : Int)) = true := by simp; omega
    simp only [this, cond_true]
    congr 1; exact (decide_eq_false fun h => hl (by rw [h])).symm
theorem slices_EqualVal_ok : EV fun n => ∀ x y : T_ValS, x.length ≤ 1048576 → slices_Equal_impl_Val_impl_Val n x y = some (decide (x = y)) := (EV.gt 1048576).up fun n hn x y hx => by
  rw [slices_Equal_impl_Val_impl_Val]
  by_cases hl : x.length = y.length
  · have : ((x.length : Int) != (y.length : Int)) = false := by simp [hl]
    simp only [this, cond_false]
    refine (eq_loop x y hl (fun j k => slices_Equal_impl_Val_impl_Val_L1 n j x y (x.length : Int) (k : Int)) (fun j => by simp only [slices_Equal_impl_Val_impl_Val_L1, lt_cast, Nat.lt_irrefl, decide_false, cond_false]) (fun j k hk hk2 => ?_) x n 0 rfl (by omega) (by omega)).trans (by simp)
    simp only [slices_Equal_impl_Val_impl_Val_L1, lt_cast, decide_eq_true hk, inR_true hk, inR_true hk2, Int.toNat_natCast, getD_at hk, getD_at hk2, cond_true, wrap_succ hk (by omega), val_eq]
    exact eq_step _ _ _
  · have : ((x.length : Int) != (y.length : Int)) = true := by simp; omega
    simp only [this, cond_true]
    congr 1; exact (decide_eq_false fun h => hl (by rw [h])).symm
theorem spec_SameRows_ok : EV fun n => ∀ x y : T_RowS, sm_RowS 1048576 x → spec_SameRows n x y = some (decide (x = y)) := (spec_l03SameVals_ok.and (EV.gt 1048576)).up fun n ⟨h, hn⟩ x y hx => by
  have hlen := hx.1
  rw [spec_SameRows]
  by_cases hl : x.length = y.length
  · have : ((x.length : Int) != (y.length : Int)) = false := by simp [hl]
    simp only [this, cond_false]
    refine (eq_loop x y hl (fun j k => spec_SameRows_L1 n j x y (x.length : Int) (k : Int)) (fun j => by simp only [spec_SameRows_L1, lt_cast, Nat.lt_irrefl, decide_false, cond_false]) (fun j k hk hk2 => ?_) x n 0 rfl (by omega) (by omega)).trans (by simp)
    simp only [spec_SameRows_L1, lt_cast, decide_eq_true hk, inR_true hk, inR_true hk2, Int.toNat_natCast, getD_at hk, getD_at hk2, cond_true, wrap_succ hk (by omega), h x[k] y[k] (hx.2 _ (List.getElem_mem hk)).1, Option.bind_some]
    exact eq_step _ _ _
  · have : ((x.length : Int) != (y.length : Int)) = true := by simp; omega
    simp only [this, cond_true]
    congr 1; exact (decide_eq_false fun h => hl (by rw [h])).symm
theorem impl_SameRows_ok : EV fun n => ∀ x y : T_RowS, sm_RowS 1048576 x → impl_SameRows n x y = some (decide (x = y)) :=
  ((slices_EqualVal_ok.up (q := fun n => ∀ x y : T_ValS, x.length ≤ 1048576 → impl_SameRows_1 n x y = some (decide (x = y))) fun n h x y hx => by simp only [impl_SameRows_1, h x y hx, Option.bind_some]).and (EV.gt 1048576)).up
    (q := fun n => ∀ x y : T_RowS, sm_RowS 1048576 x → slices_EqualFunc_impl_Row_impl_Row_impl_Row_impl_Row__impl_SameRows_1 n x y = some (decide (x = y))) (fun n ⟨h, hn⟩ x y hx => by
  have hlen := hx.1
  rw [slices_EqualFunc_impl_Row_impl_Row_impl_Row_impl_Row__impl_SameRows_1]
  by_cases hl : x.length = y.length
  · have : ((x.length : Int) != (y.length : Int)) = false := by simp [hl]
    simp only [this, cond_false]
    refine (eq_loop x y hl (fun j k => slices_EqualFunc_impl_Row_impl_Row_impl_Row_impl_Row__impl_SameRows_1_L1 n j y x (x.length : Int) (k : Int)) (fun j => by simp only [slices_EqualFunc_impl_Row_impl_Row_impl_Row_impl_Row__impl_SameRows_1_L1, lt_cast, Nat.lt_irrefl, decide_false, cond_false]) (fun j k hk hk2 => ?_) x n 0 rfl (by omega) (by omega)).trans (by simp)
    simp only [slices_EqualFunc_impl_Row_impl_Row_impl_Row_impl_Row__impl_SameRows_1_L1, lt_cast, decide_eq_true hk, inR_true hk, inR_true hk2, Int.toNat_natCast, getD_at hk, getD_at hk2, cond_true, wrap_succ hk (by omega), h x[k] y[k] (hx.2 _ (List.getElem_mem hk)).1, Option.bind_some]
    exact eq_step _ _ _
  · have : ((x.length : Int) != (y.length : Int)) = true := by simp; omega
    simp only [this, cond_true]
    congr 1; exact (decide_eq_false fun h => hl (by rw [h])).symm) |>.up fun n h x y hx => by simp only [impl_SameRows, h x y hx, Option.bind_some]
theorem same_SameRows : EV fun n => ∀ (x0 : T_RowS) (x1 : T_RowS), sm_RowS 1048576 x0 → sm_RowS 1048576 x1 → ∃ r, spec_SameRows n x0 x1 = some r ∧ impl_SameRows n x0 x1 = some r :=
  (spec_SameRows_ok.and impl_SameRows_ok).mono fun n h x y hx _ => ⟨_, h.1 x y hx, h.2 x y hx⟩
theorem law_SameRows : EV fun n => ∀ (x0 : T_RowS) (x1 : T_RowS), sm_RowS 140737488355328 x0 → sm_RowS 140737488355328 x1 → laws_FnExactSameRows n x0 x1 = some true := ((eqRowS_ok.and (toRowS_ok.and (szRowS_ok.and same_SameRows)))).up fun n h x0 x1 w0 w1 => by
  rw [laws_FnExactSameRows]
  refine law_sz (h.2.2.1 x0 (1048576 : Int) w0 (by decide) (by decide)) (by decide) (by decide) fun c0 l0 g0 g1 => ?_
  refine law_sz (h.2.2.1 x1 l0 w1 g0 (le_big g1)) g0 (g1) fun c1 l1 g2 g3 => ?_
  have s0 := cost_sm_RowS (k := 1048576) c0
  have t0 := h.2.1 x0 s0
  have q0 := h.1 x0 x0 s0
  have s1 := cost_sm_RowS (k := 1048576) c1
  have t1 := h.2.1 x1 s1
  have q1 := h.1 x1 x1 s1
  obtain ⟨r, e1, e2⟩ := h.2.2.2 x0 x1 s0 s1
  simp [t0, t1, e1, e2, q0, q1]
end Go.Proofs.Ythfkolhjnioblaa.Ev

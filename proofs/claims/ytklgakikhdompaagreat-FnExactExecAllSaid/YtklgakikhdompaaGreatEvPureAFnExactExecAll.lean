/- Words for the plain laws: what holds from some fuel on; steps of loops over lists; texts as lists of bytes. -/
import Derived.Test.YtklgakikhdompaaGreatEvFnFnExactExecAll
import Derived.Test.YtklgakikhdompaaGreatEvLaw
set_option linter.all false
namespace Go.Proofs.YtklgakikhdompaaGreat.Ev
open Go
set_option linter.unusedVariables false
def EV (p : Nat → Prop) : Prop := ∃ N, ∀ n, N ≤ n → p n
theorem EV.and {p q : Nat → Prop} (h1 : EV p) (h2 : EV q) : EV fun n => p n ∧ q n := by
 obtain ⟨N, h1⟩ := h1; obtain ⟨M, h2⟩ := h2
 exact ⟨max N M, fun n hn => ⟨h1 n (by omega), h2 n (by omega)⟩⟩
theorem EV.mono {p q : Nat → Prop} (h : EV p) (hpq : ∀ n, p n → q n) : EV q := by
 obtain ⟨N, h⟩ := h; exact ⟨N, fun n hn => hpq n (h n hn)⟩
theorem EV.gt (k : Nat) : EV fun n => k < n := ⟨k + 1, fun n hn => hn⟩
theorem EV.true : EV fun _ => True := ⟨0, fun _ _ => trivial⟩
theorem EV.up {p q : Nat → Prop} (h : EV p) (hpq : ∀ n, p n → q (n + 1)) : EV q := by
 obtain ⟨N, h⟩ := h
 refine ⟨N + 1, fun n hn => ?_⟩
 obtain ⟨m, rfl⟩ : ∃ m, n = m + 1 := ⟨n - 1, by omega⟩
 exact hpq m (h m (by omega))
theorem EV.all {α : Type} {p : α → Nat → Prop} : ∀ {l : List α}, (∀ x ∈ l, EV (p x)) → EV fun n => ∀ x ∈ l, p x n
 | [], _ => ⟨0, by simp⟩
 | a :: l, h => ((h a (zM ..)).and (EV.all fun x hx => h x (zF _ hx))).mono fun n hn x hx => by
   rcases List.mem_cons.mp hx with rfl | hx
   ·exact hn.1
   ·exact hn.2 x hx
theorem wrap64 {x : Int} (h1 : -9223372036854775808 ≤ x) (h2 : x ≤ 9223372036854775807) : IntKind.wrap .i64 x = x := by
 have e : IntKind.wrap .i64 x = (if x % 18446744073709551616 ≥ 9223372036854775808 then x % 18446744073709551616 - 18446744073709551616 else x % 18446744073709551616) := by
  simp [IntKind.wrap, IntKind.bits, IntKind.signed]
 rw [e]; split <;> omega
theorem inR_nat {k n : Nat} : inR (k : Int) n = decide (k < n) := by simp [inR]
theorem inR_true {k n : Nat} (h : k < n) : inR (k : Int) n = true := by simp [inR_nat, h]
theorem wrap_succ {k n : Nat} (h : k < n) (hn : n < 4611686018427387904) : IntKind.wrap .i64 ((k : Int) + (1 : Int)) = ((k + 1 : Nat) : Int) := by
 rw [wrap64] <;> omega
theorem lt_cast {k n : Nat} : (decide ((k : Int) < (n : Int))) = decide (k < n) := by simp
theorem getD_at {α : Type} {l : List α} {k : Nat} {z : α} (h : k < l.length) : l.getD k z = l[k] := by simp [List.getD, h]
theorem int_beq (a b : Int) : (a == b) = decide (a = b) := by by_cases h : a = b <;> simp [h]
theorem int_bne (a b : Int) : (a != b) = !decide (a = b) := by by_cases h : a = b <;> simp [bne, h]
theorem data_len (s : ByteArray) : s.data.toList.length = s.size := by rw [zI1]; rfl
theorem toList_data (s : ByteArray) : s.toList = s.data.toList := by
 have h : ∀ (n i : Nat) (r : List UInt8), s.size - i = n → ByteArray.toList.loop s i r = r.reverse ++ s.data.toList.drop i := by
  intro n
  induction n with
  | zero =>
   intro i r h
   unfold ByteArray.toList.loop
   rw [if_neg (by omega)]
   have : s.data.toList.length ≤ i := by rw [data_len]; omega
   simp [List.drop_eq_nil_of_le this]
  | succ n ih =>
   intro i r h
   unfold ByteArray.toList.loop
   rw [if_pos (by omega), ih (i + 1) _ (by omega)]
   have hi : i < s.data.toList.length := by rw [data_len]; omega
   rw [zC1 hi]
   have : s.get! i = s.data.toList[i] := by
    have hi' : i < s.data.size := by simpa using hi
    rw [ByteArray.get!, Array.getElem!_eq_getD]
    simp only [Array.getD, hi', dite_true]
    rfl
   simp [this]
 simpa [ByteArray.toList] using h s.size 0 [] (by omega)
theorem text_ext {a b : ByteArray} (h : a.data.toList = b.data.toList) : a = b := by
 obtain ⟨⟨a⟩⟩ := a; obtain ⟨⟨b⟩⟩ := b; simpa using h
theorem text_eq (a b : ByteArray) : (a.toList == b.toList) = decide (a = b) := by
 rw [toList_data, toList_data]
 by_cases h : a = b
 ·subst h; simp
 ·have : ¬ a.data.toList = b.data.toList := fun e => h (text_ext e)
  rw [zK h]; exact beq_eq_false_iff_ne.mpr this
theorem text_eq' (a b : ByteArray) : (a.toList = b.toList) = (a = b) := by
 rw [toList_data, toList_data]
 exact propext ⟨text_ext, fun h => by rw [h]⟩
theorem drop_cons {α : Type} {l : List α} {k : Nat} {x : α} {t : List α} (h : l.drop k = x :: t) (z : α) : k < l.length ∧ l.getD k z = x ∧ l.drop (k + 1) = t := by
 have hk : k < l.length := by
  rcases zE1 k l.length with h' | h'
  ·exact h'
  ·rw [List.drop_eq_nil_of_le h'] at h; cases h
 rw [zC1 hk] at h
 obtain ⟨h1, h2⟩ := List.cons.inj h
 exact ⟨hk, by simp [List.getD, hk, h1], h2⟩
theorem along {α S T : Type} (l : List α) (L : Nat → Nat → S → T) (G : List α → S → T) (hnil : ∀ j s, L (j + 1) l.length s = G [] s)
  (hcons : ∀ j k x t s, l.drop k = x :: t → k < l.length → (∀ s, L j (k + 1) s = G t s) → L (j + 1) k s = G (x :: t) s) :
  ∀ (t : List α) (j k : Nat) (s : S), l.drop k = t → k ≤ l.length → t.length < j → L j k s = G t s
 | [], j + 1, k, s, hd, hk, _ => by
  have : k = l.length := by
   rcases zE1 k l.length with h' | h'
   ·rw [zC1 h'] at hd; cases hd
   ·omega
  subst this; exact hnil j s
 | x :: t, j + 1, k, s, hd, hk, hj => by
  have h := drop_cons hd x
  exact hcons j k x t s hd h.1 fun s => along l L G hnil hcons t j (k + 1) s h.2.2 (by omega) (by simp at hj; omega)
theorem along0 {α S T : Type} (l : List α) (L : Nat → Nat → S → T) (G : List α → S → T) {j : Nat} (hj : l.length < j) (s : S) (hnil : ∀ j s, L (j + 1) l.length s = G [] s)
  (hcons : ∀ j k x t s, l.drop k = x :: t → k < l.length → (∀ s, L j (k + 1) s = G t s) → L (j + 1) k s = G (x :: t) s) : L j 0 s = G l s :=
 along l L G hnil hcons l j 0 s rfl (by omega) hj
theorem set_take {α : Type} {s : List α} {k : Nat} {x : α} (h : k < s.length) (t : List α) : (s.set k x).take (k + 1) ++ t = s.take k ++ x :: t := by
 induction s generalizing k with
 | nil => simp at h
 | cons a s ih =>
  cases k with
  | zero => simp
  | succ k => simp at h; simp [ih h]
theorem copy_loop {α β : Type} (l : List α) (f : α → β) (L : Nat → Nat → List β → Option (List β)) (hexit : ∀ j s, L (j + 1) l.length s = some s)
  (hstep : ∀ j k s (h : k < l.length), s.length = l.length → L (j + 1) k s = L j (k + 1) (s.set k (f l[k]))) : ∀ (t : List α) (j k : Nat) (s : List β), l.drop k = t → k ≤ l.length → t.length < j → s.length = l.length → L j k s = some (s.take k ++ t.map f)
 | [], j + 1, k, s, hd, hk, _, hs => by
  have : k = l.length := by
   rcases zE1 k l.length with h' | h'
   ·rw [zC1 h'] at hd; cases hd
   ·omega
  subst this
  rw [hexit, List.take_of_length_le (by omega)]; simp
 | x :: t, j + 1, k, s, hd, hk, hj, hs => by
  obtain ⟨h1, h2, h3⟩ := drop_cons hd x
  rw [hstep j k s h1 hs, copy_loop l f L hexit hstep t j (k + 1) _ h3 (by omega) (by simp at hj; omega) (by simpa using hs)]
  have hx : l[k] = x := by simpa [List.getD, h1] using h2
  rw [set_take (by omega), hx]; rfl
theorem copy_loop0 {α β : Type} (l : List α) (f : α → β) (L : Nat → Nat → List β → Option (List β)) {j : Nat} {s : List β} (hj : l.length < j) (hs : s.length = l.length) (hexit : ∀ j s, L (j + 1) l.length s = some s)
  (hstep : ∀ j k s (h : k < l.length), s.length = l.length → L (j + 1) k s = L j (k + 1) (s.set k (f l[k]))) : L j 0 s = some (l.map f) := by
 rw [copy_loop l f L hexit hstep l j 0 s rfl (by omega) hj hs]; simp
theorem bt_at {s : ByteArray} {k : Nat} (h : k < s.size) : bt s (k : Int) = ((s.data.toList[k]'(by rw [data_len]; exact h)).toNat : Int) := by
 simp only [bt, zE, h, dite_true]; rfl
theorem bt_drop {s : ByteArray} {k : Nat} {x : UInt8} {t : List UInt8} (h : s.data.toList.drop k = x :: t) : k < s.size ∧ bt s (k : Int) = (x.toNat : Int) := by
 obtain ⟨h1, h2, _⟩ := drop_cons h x
 have h3 : k < s.size := by rw [← data_len]; exact h1
 refine ⟨h3, ?_⟩
 rw [bt_at h3]
 rw [getD_at h1] at h2; rw [h2]
theorem alongT {S T : Type} (s : ByteArray) (L : Nat → Nat → S → T) (G : List UInt8 → S → T) (hnil : ∀ j st, L (j + 1) s.size st = G [] st)
  (hcons : ∀ j k x t st, s.data.toList.drop k = x :: t → k < s.size → bt s (k : Int) = (x.toNat : Int) → (∀ st, L j (k + 1) st = G t st) → L (j + 1) k st = G (x :: t) st) {j : Nat} (hj : s.size < j) (st : S) : L j 0 st = G s.data.toList st := by
 refine along0 s.data.toList L G (by rw [data_len]; exact hj) st (fun j st => by rw [data_len]; exact hnil j st) fun j k x t st hd hk ih => ?_
 obtain ⟨h1, h2⟩ := bt_drop hd
 exact hcons j k x t st hd h1 h2 ih
def szR (c : Nat) (l : Int) : Int := if l < c then -1 else l - c
def big : Int := 1152921504606846976
theorem sz_str {r : Int → Option Int} {l : Int} {m c : Nat} (h0 : 0 ≤ l) (h1 : l ≤ big) (hm : (m : Int) ≤ big) (h : ∀ l', 0 ≤ l' → l' ≤ big → r l' = some (szR c l')) :
  (let v : Int := IntKind.wrap .i64 (l - (m : Int)); bif decide (v < (0 : Int)) then some (-1 : Int) else r v) = some (szR (m + c) l) := by
 simp only [big] at *
 rw [wrap64 (by omega) (by omega)]
 by_cases hl : l - (m : Int) < 0
 ·rw [zD hl, zB, szR, if_pos (by omega)]
 ·rw [zK hl, zA, h _ (by omega) (by omega)]
  simp only [szR]
  congr 1
  split <;> split <;> omega
theorem sz_call {r : Int → Option Int} {f : Option Int} {l : Int} {m c : Nat} (h0 : 0 ≤ l) (h1 : l ≤ big) (hf : f = some (szR m l)) (h : ∀ l', 0 ≤ l' → l' ≤ big → r l' = some (szR c l')) :
  (f.bind fun v => bif decide (v < (0 : Int)) then some (-1 : Int) else r v) = some (szR (m + c) l) := by
 rw [hf, zC]
 by_cases hl : l < m
 ·have : szR m l = -1 := if_pos hl
  rw [this, zD (by omega), zB, szR, if_pos (by omega)]
 ·have : szR m l = l - m := if_neg hl
  rw [this, zK (by omega), zA, h _ (by omega) (by omega)]
  simp only [szR]
  congr 1
  split <;> split <;> omega
theorem sz_end {l : Int} (h0 : 0 ≤ l) : some l = some (szR 0 l) := by simp only [szR]; rw [if_neg (by omega)]; simp
theorem sz_loop {α : Type} (l : List α) (c : α → Nat) (L : Nat → Nat → Int → Option Int) (hexit : ∀ j s, L (j + 1) l.length s = some s)
  (hstep : ∀ j k s (h : k < l.length), 0 ≤ s → s ≤ big → L (j + 1) k s = if s < (c l[k] : Int) then some (-1) else L j (k + 1) (s - (c l[k] : Int))) :
  ∀ (t : List α) (j k : Nat) (s : Int), l.drop k = t → k ≤ l.length → t.length < j → 0 ≤ s → s ≤ big → L j k s = some (szR (t.map c).sum s)
 | [], j + 1, k, s, hd, hk, _, h0, h1 => by
  have : k = l.length := by
   rcases zE1 k l.length with h' | h'
   ·rw [zC1 h'] at hd; cases hd
   ·omega
  subst this
  rw [hexit]; exact sz_end h0
 | x :: t, j + 1, k, s, hd, hk, hj, h0, h1 => by
  obtain ⟨h2, h3, h4⟩ := drop_cons hd x
  have hx : l[k] = x := by simpa [List.getD, h2] using h3
  rw [hstep j k s h2 h0 h1, hx]
  simp only [List.map_cons, List.sum_cons]
  split
  ·rw [szR, if_pos (by omega)]
  ·rw [sz_loop l c L hexit hstep t j (k + 1) _ h4 (by omega) (by simp at hj; omega) (by omega) (by omega)]
   simp only [szR]
   congr 1
   split <;> split <;> omega
theorem le_sum {α : Type} {f : α → Nat} : ∀ {l : List α} {x : α}, x ∈ l → f x ≤ (l.map f).sum
 | a :: l, x, h => by
  simp only [List.map_cons, List.sum_cons]
  rcases List.mem_cons.mp h with rfl | h
  ·omega
  ·have := le_sum (f := f) h; omega
theorem szR_step {c : Nat} {s : Int} (R : Int → Option Int) (b : Option Int) (h0 : 0 ≤ s) : (bif decide (szR c s < 0) then b else R (szR c s)) = if s < (c : Int) then b else R (s - (c : Int)) := by
 by_cases h : s < (c : Int)
 ·have : szR c s = -1 := if_pos h
  rw [this, if_pos h]; rfl
 ·have : szR c s = s - c := if_neg h
  rw [this, if_neg h, zK (by omega)]; rfl
theorem eq_step {α : Type} [DecidableEq α] (x y : α) (R : Option Bool) : (bif !decide (x = y) then some false else R) = if x = y then R else some false := by
 by_cases h : x = y <;> simp [h]
theorem eq_step2 (x y : Int) (R : Option Bool) : (bif x != y then some false else R) = if x = y then R else some false := by
 by_cases h : x = y
 ·subst h; simp
 ·rw [if_neg h, show (x != y) = true by simpa using h]; rfl
theorem eq_step3 (x y : Bool) (R : Option Bool) : (bif !(x == y) then some false else R) = if x = y then R else some false := by
 cases x <;> cases y <;> rfl
theorem eq_last {p : Prop} [Decidable p] : (if p then some true else some false) = some (decide p) := by by_cases h : p <;> simp [h]
theorem eq_and {p q : Prop} [Decidable p] [Decidable q] : (if p then some (decide q) else some false) = some (decide (p ∧ q)) := by by_cases h : p <;> simp [h]
theorem str_step {c : Nat} {s : Int} (a b : Option Int) : (bif decide (s - (c : Int) < 0) then a else b) = if s < (c : Int) then a else b := by
 by_cases h : s < (c : Int)
 ·rw [if_pos h, zD (by omega)]; rfl
 ·rw [if_neg h, zK (by omega)]; rfl
theorem eq_end : ∀ b : Bool, (bif !b then some false else some true) = some b := by intro b; cases b <;> rfl
theorem eq_loop {α : Type} [DecidableEq α] (l m : List α) (hlm : l.length = m.length) (L : Nat → Nat → Option Bool) (hexit : ∀ j, L (j + 1) l.length = some true)
  (hstep : ∀ j k (h : k < l.length) (h' : k < m.length), L (j + 1) k = if l[k] = m[k] then L j (k + 1) else some false) :
  ∀ (t : List α) (j k : Nat), l.drop k = t → k ≤ l.length → t.length < j → L j k = some (decide (t = m.drop k))
 | [], j + 1, k, hd, hk, _ => by
  have : k = l.length := by
   rcases zE1 k l.length with h' | h'
   ·rw [zC1 h'] at hd; cases hd
   ·omega
  subst this
  rw [hexit, List.drop_eq_nil_of_le (by omega)]; simp
 | x :: t, j + 1, k, hd, hk, hj => by
  obtain ⟨h2, h3, h4⟩ := drop_cons hd x
  have hx : l[k] = x := by simpa [List.getD, h2] using h3
  rw [hstep j k h2 (by omega), hx, zC1 (show k < m.length by omega)]
  split
  ·rename_i e
   rw [eq_loop l m hlm L hexit hstep t j (k + 1) h4 (by omega) (by simp at hj; omega)]
   congr 1; exact decide_eq_decide.mpr ⟨fun h => by rw [e, h], fun h => (List.cons.inj h).2⟩
  ·rename_i e
   congr 1; exact (zK fun h => e (List.cons.inj h).1).symm
def idxFrom {α : Type} (p : α → Bool) : List α → Nat → Int
 | [], _ => -1
 | x :: t, k => if p x = true then (k : Int) else idxFrom p t (k + 1)
def idx {α : Type} (p : α → Bool) (l : List α) : Int := idxFrom p l 0
theorem find_loop {α : Type} (p : α → Bool) (l : List α) (L : Nat → Nat → Option Int) (hexit : ∀ j, L (j + 1) l.length = some (-1))
  (hstep : ∀ j k (h : k < l.length), L (j + 1) k = if p l[k] = true then some (k : Int) else L j (k + 1)) :
  ∀ (t : List α) (j k : Nat), l.drop k = t → k ≤ l.length → t.length < j → L j k = some (idxFrom p t k)
 | [], j + 1, k, hd, hk, _ => by
  have : k = l.length := by
   rcases zE1 k l.length with h' | h'
   ·rw [zC1 h'] at hd; cases hd
   ·omega
  subst this; rw [hexit]; rfl
 | x :: t, j + 1, k, hd, hk, hj => by
  obtain ⟨h2, h3, h4⟩ := drop_cons hd x
  have hx : l[k] = x := by simpa [List.getD, h2] using h3
  rw [hstep j k h2, hx, find_loop p l L hexit hstep t j (k + 1) h4 (by omega) (by simp at hj; omega)]
  simp only [idxFrom]; split <;> rfl
theorem all_loop {α : Type} (p : α → Bool) (l : List α) (L : Nat → Nat → Option Bool) (r : Option Bool) (hexit : ∀ j, L (j + 1) l.length = r)
  (hstep : ∀ j k (h : k < l.length), L (j + 1) k = if p l[k] = true then L j (k + 1) else some false) :
  ∀ (t : List α) (j k : Nat), l.drop k = t → k ≤ l.length → t.length < j → L j k = if t.all p = true then r else some false
 | [], j + 1, k, hd, hk, _ => by
  have : k = l.length := by
   rcases zE1 k l.length with h' | h'
   ·rw [zC1 h'] at hd; cases hd
   ·omega
  subst this; rw [hexit]; rfl
 | x :: t, j + 1, k, hd, hk, hj => by
  obtain ⟨h2, h3, h4⟩ := drop_cons hd x
  have hx : l[k] = x := by simpa [List.getD, h2] using h3
  rw [hstep j k h2, hx, all_loop p l L r hexit hstep t j (k + 1) h4 (by omega) (by simp at hj; omega)]
  by_cases hp : p x = true <;> simp [hp]
theorem bif_step {b : Bool} {α : Type} (x y : α) : (bif !b then y else x) = if b = true then x else y := by cases b <;> rfl
theorem bif_step' {b : Bool} {α : Type} (x y : α) : (bif b then x else y) = if b = true then x else y := by cases b <;> rfl
theorem idx_bound {α : Type} (p : α → Bool) : ∀ (l : List α) (k : Nat), idxFrom p l k = -1 ∨ ((k : Int) ≤ idxFrom p l k ∧ idxFrom p l k < (k + l.length : Nat))
 | [], k => .inl rfl
 | x :: t, k => by
  simp only [idxFrom]
  split
  ·right; simp only [zW]; omega
  ·rcases idx_bound p t (k + 1) with h | h
   ·exact .inl h
   ·right; simp only [zW]; omega
theorem idx_lt {α : Type} (p : α → Bool) (l : List α) : -1 ≤ idx p l ∧ idx p l < (l.length : Int) := by
 rcases idx_bound p l 0 with h | h
 ·unfold idx; rw [h]; omega
 ·unfold idx; omega
def allFrom {α : Type} (p : α → Nat → Bool) : List α → Nat → Bool
 | [], _ => true
 | x :: t, k => p x k && allFrom p t (k + 1)
theorem allFrom_loop {α : Type} (p : α → Nat → Bool) (l : List α) (L : Nat → Nat → Option Bool) (r : Option Bool) (hexit : ∀ j, L (j + 1) l.length = r)
  (hstep : ∀ j k (h : k < l.length), L (j + 1) k = if p l[k] k = true then L j (k + 1) else some false) :
  ∀ (t : List α) (j k : Nat), l.drop k = t → k ≤ l.length → t.length < j → L j k = if allFrom p t k = true then r else some false
 | [], j + 1, k, hd, hk, _ => by
  have : k = l.length := by
   rcases zE1 k l.length with h' | h'
   ·rw [zC1 h'] at hd; cases hd
   ·omega
  subst this; rw [hexit]; rfl
 | x :: t, j + 1, k, hd, hk, hj => by
  obtain ⟨h2, h3, h4⟩ := drop_cons hd x
  have hx : l[k] = x := by simpa [List.getD, h2] using h3
  rw [hstep j k h2, hx, allFrom_loop p l L r hexit hstep t j (k + 1) h4 (by omega) (by simp at hj; omega)]
  by_cases hp : p x k = true <;> simp [hp, allFrom]
def runs {α S : Type} (f : α → S → Option S) : List α → S → Option S
 | [], s => some s
 | x :: t, s => (f x s).bind (runs f t)
def after {S T : Type} (o : Option S) (X : T) (R : S → T) : T := match o with
 | some s => R s
 | none => X
theorem run_loop {α S T : Type} (l : List α) (f : α → S → Option S) (L : Nat → Nat → S → T) (R : S → T) (X : T) (Inv : S → Prop) (hinv : ∀ x ∈ l, ∀ s s', Inv s → f x s = some s' → Inv s')
  (hexit : ∀ j s, Inv s → L (j + 1) l.length s = R s) (hstep : ∀ j k s (h : k < l.length), Inv s → L (j + 1) k s = after (f l[k] s) X fun s' => L j (k + 1) s') :
  ∀ (t : List α) (j k : Nat) (s : S), l.drop k = t → k ≤ l.length → t.length < j → Inv s → L j k s = after (runs f t s) X R
 | [], j + 1, k, s, hd, hk, _, hs => by
  have : k = l.length := by
   rcases zE1 k l.length with h' | h'
   ·rw [zC1 h'] at hd; cases hd
   ·omega
  subst this; rw [hexit _ _ hs]; rfl
 | x :: t, j + 1, k, s, hd, hk, hj, hs => by
  obtain ⟨h2, h3, h4⟩ := drop_cons hd x
  have hx : l[k] = x := by simpa [List.getD, h2] using h3
  rw [hstep j k s h2 hs, hx]
  simp only [runs]
  cases hf : f x s with
  | none => rfl
  | some s' => exact run_loop l f L R X Inv hinv hexit hstep t j (k + 1) s' h4 (by omega) (by simp at hj; omega) (hinv x (by rw [← hx]; exact zL h2) s s' hs hf)
theorem allFrom_loopQ {α : Type} (p : α → Nat → Bool) (Q : Nat → Prop) (l : List α) (L : Nat → Nat → Option Bool) (r : Option Bool) (hexit : ∀ j, L (j + 1) l.length = r)
  (hQ : ∀ k (h : k < l.length), Q k → p l[k] k = true → Q (k + 1)) (hstep : ∀ j k (h : k < l.length), Q k → L (j + 1) k = if p l[k] k = true then L j (k + 1) else some false) :
  ∀ (t : List α) (j k : Nat), l.drop k = t → k ≤ l.length → t.length < j → Q k → L j k = if allFrom p t k = true then r else some false
 | [], j + 1, k, hd, hk, _, _ => by
  have : k = l.length := by
   rcases zE1 k l.length with h' | h'
   ·rw [zC1 h'] at hd; cases hd
   ·omega
  subst this; rw [hexit]; rfl
 | x :: t, j + 1, k, hd, hk, hj, hq => by
  obtain ⟨h2, h3, h4⟩ := drop_cons hd x
  have hx : l[k] = x := by simpa [List.getD, h2] using h3
  rw [hstep j k h2 hq, hx]
  by_cases hp : p x k = true
  ·rw [allFrom_loopQ p Q l L r hexit hQ hstep t j (k + 1) h4 (by omega) (by simp at hj; omega) (hQ k h2 hq (by rw [hx]; exact hp))]
   simp [hp, allFrom]
  ·simp [hp, allFrom]
theorem allFrom_iff {α : Type} (p : α → Nat → Bool) : ∀ (l : List α) (k : Nat), allFrom p l k = true ↔ ∀ i (h : i < l.length), p l[i] (k + i) = true
 | [], k => by simp [allFrom]
 | x :: t, k => by
  simp only [allFrom, zJ, allFrom_iff p t (k + 1)]
  constructor
  ·rintro ⟨h1, h2⟩ i hi
   cases i with
   | zero => exact h1
   | succ i => have := h2 i (by simp at hi; omega); rwa [show k + 1 + i = k + (i + 1) by omega] at this
  ·intro h
   refine ⟨h 0 (by simp), fun i hi => ?_⟩
   have := h (i + 1) (by simp; omega)
   rwa [show k + (i + 1) = k + 1 + i by omega] at this
theorem map_loop {α β : Type} (l : List α) (g : α → β) (L : Nat → Nat → List β → Option (List β)) (hexit : ∀ j s, L (j + 1) l.length s = some s)
  (hstep : ∀ j k s (h : k < l.length), s.length = k → L (j + 1) k s = L j (k + 1) (s ++ [g l[k]])) : ∀ (t : List α) (j k : Nat) (s : List β), l.drop k = t → k ≤ l.length → t.length < j → s.length = k → L j k s = some (s ++ t.map g)
 | [], j + 1, k, s, hd, hk, _, hs => by
  have : k = l.length := by
   rcases zE1 k l.length with h' | h'
   ·rw [zC1 h'] at hd; cases hd
   ·omega
  subst this; rw [hexit]; simp
 | x :: t, j + 1, k, s, hd, hk, hj, hs => by
  obtain ⟨h2, h3, h4⟩ := drop_cons hd x
  have hx : l[k] = x := by simpa [List.getD, h2] using h3
  rw [hstep j k s h2 hs, hx, map_loop l g L hexit hstep t j (k + 1) _ h4 (by omega) (by simp at hj; omega) (by simp [hs])]
  simp
theorem le_big {l : Int} (h : l ≤ 1048576) : l ≤ big := by simp only [big]; omega
theorem law_sz {r : Int → Option Bool} {f : Option Int} {l : Int} {m : Nat} (hf : f = some (szR m l)) (h0 : 0 ≤ l) (h1 : l ≤ 1048576) (h : m ≤ 1048576 → ∀ l', 0 ≤ l' → l' ≤ 1048576 → r l' = some true) :
  (f.bind fun v => bif decide (v < (0 : Int)) then some true else r v) = some true := by
 rw [hf, zC]
 by_cases hl : l < m
 ·have : szR m l = -1 := if_pos hl
  rw [this]; rfl
 ·have : szR m l = l - m := if_neg hl
  rw [this, zK (by omega), zA]
  exact h (by omega) _ (by omega) (by omega)
def mkL {E : Type} (mk : Int → E → E) (mc : E → Nat) : Int → List E → List E
 | _, [] => []
 | k, x :: t => mk k x :: mkL mk mc (k + mc x) t
def mcL {E : Type} (mc : E → Nat) : List E → Nat
 | [] => 0
 | x :: t => mc x + mcL mc t
theorem mkL_len {E : Type} (mk : Int → E → E) (mc : E → Nat) : ∀ (l : List E) (k : Int), (mkL mk mc k l).length = l.length
 | [], k => rfl
 | x :: t, k => by simp [mkL, mkL_len mk mc t]
theorem mcL_le {E : Type} {mc : E → Nat} {b : Nat} : ∀ {l : List E}, (∀ x ∈ l, mc x ≤ b) → mcL mc l ≤ l.length * b
 | [], _ => by simp [mcL]
 | x :: t, h => by
  have h1 := h x (zM ..)
  have h2 := mcL_le (l := t) fun y hy => h y (zF _ hy)
  simp only [mcL, zW, zD1, Nat.one_mul]
  omega
theorem mcL_le' {E : Type} {mc : E → Nat} {b m c : Nat} {l : List E} (h : ∀ x ∈ l, mc x ≤ b) (hl : l.length ≤ m) (hc : m * b ≤ c) : mcL mc l ≤ c := Nat.le_trans (mcL_le h) (Nat.le_trans (Nat.mul_le_mul_right b hl) hc)
def markMax : Int := 9000000000000000000
theorem mark_loop {E : Type} (mk : Int → E → E) (mc : E → Nat) (P : E → Prop) (F : Nat → Int → Int → List E → Option (Int × (List E × Unit)))
  (hend : ∀ j k (l : List E), F (j + 1) k (l.length : Int) l = some (k, (l, ())))
  (hstep : ∀ j k i (l : List E) (hi : i < l.length), P l[i] → 0 ≤ k → k + mc l[i] ≤ markMax → l.length ≤ 1048577 → F (j + 1) k (i : Int) l = F j (k + mc l[i]) ((i + 1 : Nat) : Int) (l.set i (mk k l[i]))) :
  ∀ (t pre : List E) (j : Nat) (k : Int), t.length < j → (pre ++ t).length ≤ 1048577 → (∀ x ∈ t, P x) → 0 ≤ k → k + mcL mc t ≤ markMax → F j k (pre.length : Int) (pre ++ t) = some (k + mcL mc t, (pre ++ mkL mk mc k t, ()))
 | [], pre, j, k, hj, _, _, _, _ => by
  obtain ⟨j, rfl⟩ : ∃ i, j = i + 1 := ⟨j - 1, by simp at hj; omega⟩
  have := hend j k pre
  simpa [mkL, mcL] using this
 | x :: t, pre, j, k, hj, hl, hP, h0, h1 => by
  obtain ⟨j, rfl⟩ : ∃ i, j = i + 1 := ⟨j - 1, by simp at hj; omega⟩
  have hi : pre.length < (pre ++ x :: t).length := by simp
  have hx : (pre ++ x :: t)[pre.length] = x := by simp
  simp only [mcL] at h1
  have hs := hstep j k pre.length (pre ++ x :: t) hi (by rw [hx]; exact hP x (zM ..)) h0 (by rw [hx]; omega) hl
  rw [hx] at hs
  have hset : (pre ++ x :: t).set pre.length (mk k x) = (pre ++ [mk k x]) ++ t := by simp
  rw [hs, hset]
  have ih := mark_loop mk mc P F hend hstep t (pre ++ [mk k x]) j (k + mc x) (by simpa using hj) (by simp at hl ⊢; omega) (fun y hy => hP y (zF _ hy)) (by omega) (by omega)
  rw [show (pre ++ [mk k x]).length = pre.length + 1 by simp] at ih
  rw [ih]
  simp only [mkL, mcL, List.append_assoc, List.singleton_append]
  congr 2
  omega
theorem held_loop {E : Type} (mk : Int → E → E) (mc : E → Nat) (P : E → Prop) (L : List E) (H : Nat → Int → Int → Option Int) (hL : L.length ≤ 1048577)
  (hend : ∀ j k, H (j + 1) k (L.length : Int) = some k)
  (hstep : ∀ j k i x (hi : i < L.length), P x → L[i] = mk k x → 0 ≤ k → k + mc x ≤ markMax → H (j + 1) k (i : Int) = H j (k + mc x) ((i + 1 : Nat) : Int)) :
  ∀ (t pre : List E) (j : Nat) (k : Int), L = pre ++ mkL mk mc k t → t.length < j → (∀ x ∈ t, P x) → 0 ≤ k → k + mcL mc t ≤ markMax → H j k (pre.length : Int) = some (k + mcL mc t)
 | [], pre, j, k, hp, hj, _, _, _ => by
  obtain ⟨j, rfl⟩ : ∃ i, j = i + 1 := ⟨j - 1, by simp at hj; omega⟩
  simp only [mkL, zH1] at hp
  have := hend j k
  rw [hp] at this
  simpa [mcL] using this
 | x :: t, pre, j, k, hp, hj, hP, h0, h1 => by
  obtain ⟨j, rfl⟩ : ∃ i, j = i + 1 := ⟨j - 1, by simp at hj; omega⟩
  simp only [mkL] at hp
  simp only [mcL] at h1
  have hi : pre.length < L.length := by rw [hp]; simp
  have hx : L[pre.length] = mk k x := by simp [hp]
  have hs := hstep j k pre.length x hi (hP x (zM ..)) hx h0 (by omega)
  rw [hs]
  have ih := held_loop mk mc P L H hL hend hstep t (pre ++ [mk k x]) j (k + mc x) (by rw [hp]; simp) (by simpa using hj) (fun y hy => hP y (zF _ hy)) (by omega) (by omega)
  rw [show (pre ++ [mk k x]).length = pre.length + 1 by simp] at ih
  rw [ih]
  simp only [mcL]
  congr 1
  omega
theorem wrapk {x : Int} (h0 : 0 ≤ x) (h1 : x ≤ 9223372036854775807) : IntKind.wrap .i64 x = x := wrap64 (by omega) h1
theorem setAt {α : Type} {l : List α} {i : Nat} {x z : α} (h : i < l.length) : (l.set i x).getD i z = x := by simp [List.getD, h]
abbrev T_Val := Int × (Int × (ByteArray))
instance i_Val : DecidableEq T_Val := @instDecidableEqProd _ _ inferInstance (@instDecidableEqProd _ _ inferInstance (inferInstance))
def cost_Val (x : T_Val) : Nat := x.2.2.size + (0)
def sm_Val (k : Nat) (x : T_Val) : Prop := x.2.2.size ≤ k
theorem cost_sm_Val {k : Nat} {x : T_Val} (h : cost_Val x ≤ k) : sm_Val k x := by
 unfold cost_Val at h
 unfold sm_Val
 exact by omega
theorem toVal_ok : EV fun n => ∀ x : T_Val, sm_Val 1048576 x → laws_toVal n x.1 x.2.1 x.2.2 = some x := EV.true.up fun n h x hs => by
 unfold sm_Val at hs
 simp only [laws_toVal, zC]
theorem szVal_ok : EV fun n => ∀ (x : T_Val) (l : Int), sm_Val 140737488355328 x → 0 ≤ l → l ≤ big → laws_szVal n x.1 x.2.1 x.2.2 l = some (szR (cost_Val x) l) := EV.true.up fun n h x l0 hs g0 g1 => by
 unfold sm_Val at hs
 rw [laws_szVal]
 unfold cost_Val
 exact sz_str (m := x.2.2.size) g0 g1 (by have := hs; simp only [big]; omega) fun l1 g2 g3 => sz_end g2
theorem eqVal_ok : EV fun n => ∀ (x y : T_Val), sm_Val 1048576 x → laws_eqVal n x.1 x.2.1 x.2.2 y.1 y.2.1 y.2.2 = some (decide (x = y)) := EV.true.up fun n h x y hs => by
 unfold sm_Val at hs
 simp only [laws_eqVal, zC, text_eq]
 obtain ⟨x0 , x1 , x2⟩ := x
 obtain ⟨y0 , y1 , y2⟩ := y
 simp only [eq_step, eq_step2, eq_step3, eq_last, eq_and]
 exact congrArg some (decide_eq_decide.mpr (by simp only [zR]))
abbrev T_ValS := List T_Val
def cost_ValS (x : T_ValS) : Nat := x.length + (x.map (cost_Val)).sum
def sm_ValS (k : Nat) (l : T_ValS) : Prop := l.length ≤ k ∧ ∀ x ∈ l, sm_Val k x
theorem cost_sm_ValS {k : Nat} {l : T_ValS} (h : cost_ValS l ≤ k) : sm_ValS k l := by
 unfold cost_ValS at h
 unfold sm_ValS
 refine ⟨by omega, fun x hx => ?_⟩
 have := le_sum (f := cost_Val) hx
 exact cost_sm_Val (by omega)
theorem toValS_ok : EV fun n => ∀ l : T_ValS, sm_ValS 1048576 l → laws_toValS n l = some l := (toVal_ok.and (EV.gt 1048576)).up fun n h l hl => by
 have hlen := hl.1
 have hroom : (decide ((l.length : Int) = (l.length : Int) ∧ 0 ≤ (l.length : Int)) && room (l.length : Int).toNat 32) = true := by simp [room]; omega
 rw [laws_toValS, hroom]
 simp only [zB]
 refine (copy_loop0 (j := n) l id (fun j k s => laws_toValS_L1 n j l (k : Int) s) (by omega) (by simp) (fun j s => by simp only [laws_toValS_L1, lt_cast, zP, zH, zA]) (fun j k s hk hs => ?_)).trans (by simp)
 have hks : k < s.length := by omega
 have e : laws_toVal n l[k].1 l[k].2.1 l[k].2.2 = some l[k] := h.1 (l[k]) (hl.2 _ (zL hk))
 simp only [laws_toValS_L1, lt_cast, zD hk, inR_true hk, zE, getD_at hk, zB, wrap_succ hk (by omega), inR_true hks, zC, id, e]
theorem szValS_ok : EV fun n => ∀ (l : T_ValS) (s : Int), sm_ValS 140737488355328 l → 0 ≤ s → s ≤ big → laws_szValS n l s = some (szR (cost_ValS l) s) := (szVal_ok.and (EV.gt 140737488355328)).up fun n h l s hl g0 g1 => by
 have hlen := hl.1
 rw [laws_szValS]
 unfold cost_ValS
 refine sz_str (r := fun s => laws_szValS_L1 n n l s (0 : Int)) (m := l.length) g0 g1 (by simp only [big]; omega) fun s g0 g1 => ?_
 refine sz_loop l _ (fun j k s => laws_szValS_L1 n j l s (k : Int)) (fun j s => by simp only [laws_szValS_L1, lt_cast, zP, zH, zA]) (fun j k s hk h0 h1 => ?_) l n 0 s rfl (by omega) (by omega) g0 g1
 have e : laws_szVal n l[k].1 l[k].2.1 l[k].2.2 s = some (szR (cost_Val l[k]) s) := h.1 (l[k]) s (hl.2 _ (zL hk)) h0 h1
 simp only [laws_szValS_L1, lt_cast, zD hk, inR_true hk, zE, getD_at hk, zB, wrap_succ hk (by omega), e, zC]
 exact szR_step (fun s => laws_szValS_L1 n j l s ((k + 1 : Nat) : Int)) _ h0
theorem eqValS_ok : EV fun n => ∀ (l m : T_ValS), sm_ValS 1048576 l → laws_eqValS n l m = some (decide (l = m)) := (eqVal_ok.and (EV.gt 1048576)).up fun n h l m hl => by
 have hlen := hl.1
 rw [laws_eqValS]
 by_cases hlm : l.length = m.length
 ·have : ((l.length : Int) != (m.length : Int)) = false := by simp [hlm]
  simp only [this, zA]
  refine (eq_loop l m hlm (fun j k => laws_eqValS_L1 n j l m (k : Int)) (fun j => by simp only [laws_eqValS_L1, lt_cast, zP, zH, zA]) (fun j k hk hk2 => ?_) l n 0 rfl (by omega) (by omega)).trans (by simp)
  have e : laws_eqVal n l[k].1 l[k].2.1 l[k].2.2 m[k].1 m[k].2.1 m[k].2.2 = some (decide (l[k] = m[k])) := h.1 (l[k]) (m[k]) (hl.2 _ (zL hk))
  simp only [laws_eqValS_L1, lt_cast, zD hk, inR_true hk, zE, getD_at hk, zB, wrap_succ hk (by omega), getD_at hk2, inR_true hk2, e, zC]
  exact eq_step (l[k]) (m[k]) _
 ·have : ((l.length : Int) != (m.length : Int)) = true := by simp; omega
  simp only [this, zB]
  congr 1; exact (zK fun h => hlm (by rw [h])).symm
abbrev T_Col := ByteArray × (Int × (Bool × (Bool × (T_Val))))
instance i_Col : DecidableEq T_Col := @instDecidableEqProd _ _ inferInstance (@instDecidableEqProd _ _ inferInstance (@instDecidableEqProd _ _ inferInstance (@instDecidableEqProd _ _ inferInstance (inferInstance))))
def cost_Col (x : T_Col) : Nat := x.1.size + (cost_Val x.2.2.2.2 + (0))
def sm_Col (k : Nat) (x : T_Col) : Prop := x.1.size ≤ k ∧ sm_Val k x.2.2.2.2
theorem cost_sm_Col {k : Nat} {x : T_Col} (h : cost_Col x ≤ k) : sm_Col k x := by
 unfold cost_Col at h
 unfold sm_Col
 exact ⟨by omega, cost_sm_Val (by omega)⟩
theorem toCol_ok : EV fun n => ∀ x : T_Col, sm_Col 1048576 x → laws_toCol n x.1 x.2.1 x.2.2.1 x.2.2.2.1 x.2.2.2.2.1 x.2.2.2.2.2.1 x.2.2.2.2.2.2 = some x := (toVal_ok.and EV.true).up fun n h x hs => by
 unfold sm_Col at hs
 have e0 : laws_toVal n x.2.2.2.2.1 x.2.2.2.2.2.1 x.2.2.2.2.2.2 = some x.2.2.2.2 := h.1 x.2.2.2.2 (hs.2)
 simp only [laws_toCol, e0, zC]
theorem szCol_ok : EV fun n => ∀ (x : T_Col) (l : Int), sm_Col 140737488355328 x → 0 ≤ l → l ≤ big → laws_szCol n x.1 x.2.1 x.2.2.1 x.2.2.2.1 x.2.2.2.2.1 x.2.2.2.2.2.1 x.2.2.2.2.2.2 l = some (szR (cost_Col x) l) := (szVal_ok.and EV.true).up fun n h x l0 hs g0 g1 => by
 unfold sm_Col at hs
 rw [laws_szCol]
 unfold cost_Col
 exact sz_str (m := x.1.size) g0 g1 (by have := hs.1; simp only [big]; omega) fun l1 g2 g3 => sz_call g2 g3 (h.1 x.2.2.2.2 l1 (hs.2) g2 g3) fun l2 g4 g5 => sz_end g4
theorem eqCol_ok : EV fun n => ∀ (x y : T_Col), sm_Col 1048576 x → laws_eqCol n x.1 x.2.1 x.2.2.1 x.2.2.2.1 x.2.2.2.2.1 x.2.2.2.2.2.1 x.2.2.2.2.2.2 y.1 y.2.1 y.2.2.1 y.2.2.2.1 y.2.2.2.2.1 y.2.2.2.2.2.1 y.2.2.2.2.2.2 = some (decide (x = y)) := (eqVal_ok.and EV.true).up fun n h x y hs => by
 unfold sm_Col at hs
 have e0 : laws_eqVal n x.2.2.2.2.1 x.2.2.2.2.2.1 x.2.2.2.2.2.2 y.2.2.2.2.1 y.2.2.2.2.2.1 y.2.2.2.2.2.2 = some (decide (x.2.2.2.2 = y.2.2.2.2)) := h.1 x.2.2.2.2 y.2.2.2.2 (hs.2)
 simp only [laws_eqCol, e0, zC, text_eq]
 obtain ⟨x0 , x1 , x2 , x3 , x4⟩ := x
 obtain ⟨y0 , y1 , y2 , y3 , y4⟩ := y
 simp only [eq_step, eq_step2, eq_step3, eq_last, eq_and]
 exact congrArg some (decide_eq_decide.mpr (by simp only [zR]))
abbrev T_ColS := List T_Col
def cost_ColS (x : T_ColS) : Nat := x.length + (x.map (cost_Col)).sum
def sm_ColS (k : Nat) (l : T_ColS) : Prop := l.length ≤ k ∧ ∀ x ∈ l, sm_Col k x
theorem cost_sm_ColS {k : Nat} {l : T_ColS} (h : cost_ColS l ≤ k) : sm_ColS k l := by
 unfold cost_ColS at h
 unfold sm_ColS
 refine ⟨by omega, fun x hx => ?_⟩
 have := le_sum (f := cost_Col) hx
 exact cost_sm_Col (by omega)
theorem toColS_ok : EV fun n => ∀ l : T_ColS, sm_ColS 1048576 l → laws_toColS n l = some l := (toCol_ok.and (EV.gt 1048576)).up fun n h l hl => by
 have hlen := hl.1
 have hroom : (decide ((l.length : Int) = (l.length : Int) ∧ 0 ≤ (l.length : Int)) && room (l.length : Int).toNat 64) = true := by simp [room]; omega
 rw [laws_toColS, hroom]
 simp only [zB]
 refine (copy_loop0 (j := n) l id (fun j k s => laws_toColS_L1 n j l (k : Int) s) (by omega) (by simp) (fun j s => by simp only [laws_toColS_L1, lt_cast, zP, zH, zA]) (fun j k s hk hs => ?_)).trans (by simp)
 have hks : k < s.length := by omega
 have e : laws_toCol n l[k].1 l[k].2.1 l[k].2.2.1 l[k].2.2.2.1 l[k].2.2.2.2.1 l[k].2.2.2.2.2.1 l[k].2.2.2.2.2.2 = some l[k] := h.1 (l[k]) (hl.2 _ (zL hk))
 simp only [laws_toColS_L1, lt_cast, zD hk, inR_true hk, zE, getD_at hk, zB, wrap_succ hk (by omega), inR_true hks, zC, id, e]
theorem szColS_ok : EV fun n => ∀ (l : T_ColS) (s : Int), sm_ColS 140737488355328 l → 0 ≤ s → s ≤ big → laws_szColS n l s = some (szR (cost_ColS l) s) := (szCol_ok.and (EV.gt 140737488355328)).up fun n h l s hl g0 g1 => by
 have hlen := hl.1
 rw [laws_szColS]
 unfold cost_ColS
 refine sz_str (r := fun s => laws_szColS_L1 n n l s (0 : Int)) (m := l.length) g0 g1 (by simp only [big]; omega) fun s g0 g1 => ?_
 refine sz_loop l _ (fun j k s => laws_szColS_L1 n j l s (k : Int)) (fun j s => by simp only [laws_szColS_L1, lt_cast, zP, zH, zA]) (fun j k s hk h0 h1 => ?_) l n 0 s rfl (by omega) (by omega) g0 g1
 have e : laws_szCol n l[k].1 l[k].2.1 l[k].2.2.1 l[k].2.2.2.1 l[k].2.2.2.2.1 l[k].2.2.2.2.2.1 l[k].2.2.2.2.2.2 s = some (szR (cost_Col l[k]) s) := h.1 (l[k]) s (hl.2 _ (zL hk)) h0 h1
 simp only [laws_szColS_L1, lt_cast, zD hk, inR_true hk, zE, getD_at hk, zB, wrap_succ hk (by omega), e, zC]
 exact szR_step (fun s => laws_szColS_L1 n j l s ((k + 1 : Nat) : Int)) _ h0
theorem eqColS_ok : EV fun n => ∀ (l m : T_ColS), sm_ColS 1048576 l → laws_eqColS n l m = some (decide (l = m)) := (eqCol_ok.and (EV.gt 1048576)).up fun n h l m hl => by
 have hlen := hl.1
 rw [laws_eqColS]
 by_cases hlm : l.length = m.length
 ·have : ((l.length : Int) != (m.length : Int)) = false := by simp [hlm]
  simp only [this, zA]
  refine (eq_loop l m hlm (fun j k => laws_eqColS_L1 n j l m (k : Int)) (fun j => by simp only [laws_eqColS_L1, lt_cast, zP, zH, zA]) (fun j k hk hk2 => ?_) l n 0 rfl (by omega) (by omega)).trans (by simp)
  have e : laws_eqCol n l[k].1 l[k].2.1 l[k].2.2.1 l[k].2.2.2.1 l[k].2.2.2.2.1 l[k].2.2.2.2.2.1 l[k].2.2.2.2.2.2 m[k].1 m[k].2.1 m[k].2.2.1 m[k].2.2.2.1 m[k].2.2.2.2.1 m[k].2.2.2.2.2.1 m[k].2.2.2.2.2.2 = some (decide (l[k] = m[k])) := h.1 (l[k]) (m[k]) (hl.2 _ (zL hk))
  simp only [laws_eqColS_L1, lt_cast, zD hk, inR_true hk, zE, getD_at hk, zB, wrap_succ hk (by omega), getD_at hk2, inR_true hk2, e, zC]
  exact eq_step (l[k]) (m[k]) _
 ·have : ((l.length : Int) != (m.length : Int)) = true := by simp; omega
  simp only [this, zB]
  congr 1; exact (zK fun h => hlm (by rw [h])).symm
abbrev T_StringS := List ByteArray
def cost_StringS (x : T_StringS) : Nat := x.length + (x.map (fun (x : ByteArray) => x.size)).sum
def sm_StringS (k : Nat) (l : T_StringS) : Prop := l.length ≤ k ∧ ∀ x ∈ l, x.size ≤ k
theorem sm_up {l : T_StringS} (h : sm_StringS 1048576 l) : sm_StringS 1048577 l := ⟨Nat.le_trans h.1 (by decide), fun x hx => Nat.le_trans (h.2 x hx) (by decide)⟩
theorem cost_sm_StringS {k : Nat} {l : T_StringS} (h : cost_StringS l ≤ k) : sm_StringS k l := by
 unfold cost_StringS at h
 unfold sm_StringS
 refine ⟨by omega, fun x hx => ?_⟩
 have := le_sum (f := fun (x : ByteArray) => x.size) hx
 exact by omega
theorem toStringS_ok : EV fun n => ∀ l : T_StringS, sm_StringS 1048576 l → laws_toStringS n l = some l := (EV.gt 1048576).up fun n h l hl => by
 have hlen := hl.1
 have hroom : (decide ((l.length : Int) = (l.length : Int) ∧ 0 ≤ (l.length : Int)) && room (l.length : Int).toNat 16) = true := by simp [room]; omega
 rw [laws_toStringS, hroom]
 simp only [zB]
 refine (copy_loop0 (j := n) l id (fun j k s => laws_toStringS_L1 n j l (k : Int) s) (by omega) (by simp) (fun j s => by simp only [laws_toStringS_L1, lt_cast, zP, zH, zA]) (fun j k s hk hs => ?_)).trans (by simp)
 have hks : k < s.length := by omega
 simp only [laws_toStringS_L1, lt_cast, zD hk, inR_true hk, zE, getD_at hk, zB, wrap_succ hk (by omega), inR_true hks, zC, id]
theorem szStringS_ok : EV fun n => ∀ (l : T_StringS) (s : Int), sm_StringS 140737488355328 l → 0 ≤ s → s ≤ big → laws_szStringS n l s = some (szR (cost_StringS l) s) := (EV.gt 140737488355328).up fun n h l s hl g0 g1 => by
 have hlen := hl.1
 rw [laws_szStringS]
 unfold cost_StringS
 refine sz_str (r := fun s => laws_szStringS_L1 n n l s (0 : Int)) (m := l.length) g0 g1 (by simp only [big]; omega) fun s g0 g1 => ?_
 refine sz_loop l _ (fun j k s => laws_szStringS_L1 n j l s (k : Int)) (fun j s => by simp only [laws_szStringS_L1, lt_cast, zP, zH, zA]) (fun j k s hk h0 h1 => ?_) l n 0 s rfl (by omega) (by omega) g0 g1
 have hs := hl.2 _ (zL hk)
 simp only [big] at h0 h1
 simp only [laws_szStringS_L1, lt_cast, zD hk, inR_true hk, zE, getD_at hk, zB, wrap_succ hk (by omega)]
 rw [wrap64 (by omega) (by omega)]
 exact str_step _ _
theorem eqStringS_okK : EV fun n => ∀ (l m : T_StringS), sm_StringS 1048577 l → laws_eqStringS n l m = some (decide (l = m)) := (EV.gt 1048577).up fun n h l m hl => by
 have hlen := hl.1
 rw [laws_eqStringS]
 by_cases hlm : l.length = m.length
 ·have : ((l.length : Int) != (m.length : Int)) = false := by simp [hlm]
  simp only [this, zA]
  refine (eq_loop l m hlm (fun j k => laws_eqStringS_L1 n j l m (k : Int)) (fun j => by simp only [laws_eqStringS_L1, lt_cast, zP, zH, zA]) (fun j k hk hk2 => ?_) l n 0 rfl (by omega) (by omega)).trans (by simp)
  simp only [laws_eqStringS_L1, lt_cast, zD hk, inR_true hk, zE, getD_at hk, zB, wrap_succ hk (by omega), getD_at hk2, inR_true hk2, text_eq]
  exact eq_step (l[k]) (m[k]) _
 ·have : ((l.length : Int) != (m.length : Int)) = true := by simp; omega
  simp only [this, zB]
  congr 1; exact (zK fun h => hlm (by rw [h])).symm
theorem eqStringS_ok : EV fun n => ∀ (l m : T_StringS), sm_StringS 1048576 l → laws_eqStringS n l m = some (decide (l = m)) := eqStringS_okK.mono fun n h l m hs => h l m (sm_up hs)
abbrev T_Table := ByteArray × (T_ColS × (T_StringS))
instance i_Table : DecidableEq T_Table := @instDecidableEqProd _ _ inferInstance (@instDecidableEqProd _ _ inferInstance (inferInstance))
def cost_Table (x : T_Table) : Nat := x.1.size + (cost_ColS x.2.1 + (cost_StringS x.2.2 + (0)))
def sm_Table (k : Nat) (x : T_Table) : Prop := x.1.size ≤ k ∧ sm_ColS k x.2.1 ∧ sm_StringS k x.2.2
theorem cost_sm_Table {k : Nat} {x : T_Table} (h : cost_Table x ≤ k) : sm_Table k x := by
 unfold cost_Table at h
 unfold sm_Table
 exact ⟨by omega, cost_sm_ColS (by omega), cost_sm_StringS (by omega)⟩
theorem toTable_ok : EV fun n => ∀ x : T_Table, sm_Table 1048576 x → laws_toTable n x.1 x.2.1 x.2.2 = some x := (toColS_ok.and (toStringS_ok.and EV.true)).up fun n h x hs => by
 unfold sm_Table at hs
 have e0 : laws_toColS n x.2.1 = some x.2.1 := h.1 x.2.1 (hs.2.1)
 have e1 : laws_toStringS n x.2.2 = some x.2.2 := h.2.1 x.2.2 (hs.2.2)
 simp only [laws_toTable, e0, e1, zC]
theorem szTable_ok : EV fun n => ∀ (x : T_Table) (l : Int), sm_Table 140737488355328 x → 0 ≤ l → l ≤ big → laws_szTable n x.1 x.2.1 x.2.2 l = some (szR (cost_Table x) l) := (szColS_ok.and (szStringS_ok.and EV.true)).up fun n h x l0 hs g0 g1 => by
 unfold sm_Table at hs
 rw [laws_szTable]
 unfold cost_Table
 exact sz_str (m := x.1.size) g0 g1 (by have := hs.1; simp only [big]; omega) fun l1 g2 g3 => sz_call g2 g3 (h.1 x.2.1 l1 (hs.2.1) g2 g3) fun l2 g4 g5 => sz_call g4 g5 (h.2.1 x.2.2 l2 (hs.2.2) g4 g5) fun l3 g6 g7 => sz_end g6
theorem eqTable_ok : EV fun n => ∀ (x y : T_Table), sm_Table 1048576 x → laws_eqTable n x.1 x.2.1 x.2.2 y.1 y.2.1 y.2.2 = some (decide (x = y)) := (eqColS_ok.and (eqStringS_ok.and EV.true)).up fun n h x y hs => by
 unfold sm_Table at hs
 have e0 : laws_eqColS n x.2.1 y.2.1 = some (decide (x.2.1 = y.2.1)) := h.1 x.2.1 y.2.1 (hs.2.1)
 have e1 : laws_eqStringS n x.2.2 y.2.2 = some (decide (x.2.2 = y.2.2)) := h.2.1 x.2.2 y.2.2 (hs.2.2)
 simp only [laws_eqTable, e0, e1, zC, text_eq]
 obtain ⟨x0 , x1 , x2⟩ := x
 obtain ⟨y0 , y1 , y2⟩ := y
 simp only [eq_step, eq_step2, eq_step3, eq_last, eq_and]
 exact congrArg some (decide_eq_decide.mpr (by simp only [zR]))
abbrev T_TableS := List T_Table
def cost_TableS (x : T_TableS) : Nat := x.length + (x.map (cost_Table)).sum
def sm_TableS (k : Nat) (l : T_TableS) : Prop := l.length ≤ k ∧ ∀ x ∈ l, sm_Table k x
theorem cost_sm_TableS {k : Nat} {l : T_TableS} (h : cost_TableS l ≤ k) : sm_TableS k l := by
 unfold cost_TableS at h
 unfold sm_TableS
 refine ⟨by omega, fun x hx => ?_⟩
 have := le_sum (f := cost_Table) hx
 exact cost_sm_Table (by omega)
theorem toTableS_ok : EV fun n => ∀ l : T_TableS, sm_TableS 1048576 l → laws_toTableS n l = some l := (toTable_ok.and (EV.gt 1048576)).up fun n h l hl => by
 have hlen := hl.1
 have hroom : (decide ((l.length : Int) = (l.length : Int) ∧ 0 ≤ (l.length : Int)) && room (l.length : Int).toNat 64) = true := by simp [room]; omega
 rw [laws_toTableS, hroom]
 simp only [zB]
 refine (copy_loop0 (j := n) l id (fun j k s => laws_toTableS_L1 n j l (k : Int) s) (by omega) (by simp) (fun j s => by simp only [laws_toTableS_L1, lt_cast, zP, zH, zA]) (fun j k s hk hs => ?_)).trans (by simp)
 have hks : k < s.length := by omega
 have e : laws_toTable n l[k].1 l[k].2.1 l[k].2.2 = some l[k] := h.1 (l[k]) (hl.2 _ (zL hk))
 simp only [laws_toTableS_L1, lt_cast, zD hk, inR_true hk, zE, getD_at hk, zB, wrap_succ hk (by omega), inR_true hks, zC, id, e]
theorem szTableS_ok : EV fun n => ∀ (l : T_TableS) (s : Int), sm_TableS 140737488355328 l → 0 ≤ s → s ≤ big → laws_szTableS n l s = some (szR (cost_TableS l) s) := (szTable_ok.and (EV.gt 140737488355328)).up fun n h l s hl g0 g1 => by
 have hlen := hl.1
 rw [laws_szTableS]
 unfold cost_TableS
 refine sz_str (r := fun s => laws_szTableS_L1 n n l s (0 : Int)) (m := l.length) g0 g1 (by simp only [big]; omega) fun s g0 g1 => ?_
 refine sz_loop l _ (fun j k s => laws_szTableS_L1 n j l s (k : Int)) (fun j s => by simp only [laws_szTableS_L1, lt_cast, zP, zH, zA]) (fun j k s hk h0 h1 => ?_) l n 0 s rfl (by omega) (by omega) g0 g1
 have e : laws_szTable n l[k].1 l[k].2.1 l[k].2.2 s = some (szR (cost_Table l[k]) s) := h.1 (l[k]) s (hl.2 _ (zL hk)) h0 h1
 simp only [laws_szTableS_L1, lt_cast, zD hk, inR_true hk, zE, getD_at hk, zB, wrap_succ hk (by omega), e, zC]
 exact szR_step (fun s => laws_szTableS_L1 n j l s ((k + 1 : Nat) : Int)) _ h0
theorem eqTableS_ok : EV fun n => ∀ (l m : T_TableS), sm_TableS 1048576 l → laws_eqTableS n l m = some (decide (l = m)) := (eqTable_ok.and (EV.gt 1048576)).up fun n h l m hl => by
 have hlen := hl.1
 rw [laws_eqTableS]
 by_cases hlm : l.length = m.length
 ·have : ((l.length : Int) != (m.length : Int)) = false := by simp [hlm]
  simp only [this, zA]
  refine (eq_loop l m hlm (fun j k => laws_eqTableS_L1 n j l m (k : Int)) (fun j => by simp only [laws_eqTableS_L1, lt_cast, zP, zH, zA]) (fun j k hk hk2 => ?_) l n 0 rfl (by omega) (by omega)).trans (by simp)
  have e : laws_eqTable n l[k].1 l[k].2.1 l[k].2.2 m[k].1 m[k].2.1 m[k].2.2 = some (decide (l[k] = m[k])) := h.1 (l[k]) (m[k]) (hl.2 _ (zL hk))
  simp only [laws_eqTableS_L1, lt_cast, zD hk, inR_true hk, zE, getD_at hk, zB, wrap_succ hk (by omega), getD_at hk2, inR_true hk2, e, zC]
  exact eq_step (l[k]) (m[k]) _
 ·have : ((l.length : Int) != (m.length : Int)) = true := by simp; omega
  simp only [this, zB]
  congr 1; exact (zK fun h => hlm (by rw [h])).symm
abbrev T_Cat := T_TableS
def cost_Cat (x : T_Cat) : Nat := cost_TableS x + (0)
def sm_Cat (k : Nat) (x : T_Cat) : Prop := sm_TableS k x
theorem cost_sm_Cat {k : Nat} {x : T_Cat} (h : cost_Cat x ≤ k) : sm_Cat k x := by
 unfold cost_Cat at h
 unfold sm_Cat
 exact cost_sm_TableS (by omega)
theorem toCat_ok : EV fun n => ∀ x : T_Cat, sm_Cat 1048576 x → laws_toCat n x = some x := (toTableS_ok.and EV.true).up fun n h x hs => by
 unfold sm_Cat at hs
 have e0 : laws_toTableS n x = some x := h.1 x (hs)
 simp only [laws_toCat, e0, zC]
theorem szCat_ok : EV fun n => ∀ (x : T_Cat) (l : Int), sm_Cat 140737488355328 x → 0 ≤ l → l ≤ big → laws_szCat n x l = some (szR (cost_Cat x) l) := (szTableS_ok.and EV.true).up fun n h x l0 hs g0 g1 => by
 unfold sm_Cat at hs
 rw [laws_szCat]
 unfold cost_Cat
 exact sz_call g0 g1 (h.1 x l0 (hs) g0 g1) fun l1 g2 g3 => sz_end g2
theorem eqCat_ok : EV fun n => ∀ (x y : T_Cat), sm_Cat 1048576 x → laws_eqCat n x y = some (decide (x = y)) := (eqTableS_ok.and EV.true).up fun n h x y hs => by
 unfold sm_Cat at hs
 have e0 : laws_eqTableS n x y = some (decide (x = y)) := h.1 x y (hs)
 simp only [laws_eqCat, e0, zC, text_eq]
 exact eq_end _
abbrev T_Row := T_ValS
def cost_Row (x : T_Row) : Nat := cost_ValS x + (0)
def sm_Row (k : Nat) (x : T_Row) : Prop := sm_ValS k x
theorem cost_sm_Row {k : Nat} {x : T_Row} (h : cost_Row x ≤ k) : sm_Row k x := by
 unfold cost_Row at h
 unfold sm_Row
 exact cost_sm_ValS (by omega)
theorem toRow_ok : EV fun n => ∀ x : T_Row, sm_Row 1048576 x → laws_toRow n x = some x := (toValS_ok.and EV.true).up fun n h x hs => by
 unfold sm_Row at hs
 have e0 : laws_toValS n x = some x := h.1 x (hs)
 simp only [laws_toRow, e0, zC]
theorem szRow_ok : EV fun n => ∀ (x : T_Row) (l : Int), sm_Row 140737488355328 x → 0 ≤ l → l ≤ big → laws_szRow n x l = some (szR (cost_Row x) l) := (szValS_ok.and EV.true).up fun n h x l0 hs g0 g1 => by
 unfold sm_Row at hs
 rw [laws_szRow]
 unfold cost_Row
 exact sz_call g0 g1 (h.1 x l0 (hs) g0 g1) fun l1 g2 g3 => sz_end g2
theorem eqRow_ok : EV fun n => ∀ (x y : T_Row), sm_Row 1048576 x → laws_eqRow n x y = some (decide (x = y)) := (eqValS_ok.and EV.true).up fun n h x y hs => by
 unfold sm_Row at hs
 have e0 : laws_eqValS n x y = some (decide (x = y)) := h.1 x y (hs)
 simp only [laws_eqRow, e0, zC, text_eq]
 exact eq_end _
abbrev T_RowS := List T_Row
def cost_RowS (x : T_RowS) : Nat := x.length + (x.map (cost_Row)).sum
def sm_RowS (k : Nat) (l : T_RowS) : Prop := l.length ≤ k ∧ ∀ x ∈ l, sm_Row k x
theorem cost_sm_RowS {k : Nat} {l : T_RowS} (h : cost_RowS l ≤ k) : sm_RowS k l := by
 unfold cost_RowS at h
 unfold sm_RowS
 refine ⟨by omega, fun x hx => ?_⟩
 have := le_sum (f := cost_Row) hx
 exact cost_sm_Row (by omega)
theorem toRowS_ok : EV fun n => ∀ l : T_RowS, sm_RowS 1048576 l → laws_toRowS n l = some l := (toRow_ok.and (EV.gt 1048576)).up fun n h l hl => by
 have hlen := hl.1
 have hroom : (decide ((l.length : Int) = (l.length : Int) ∧ 0 ≤ (l.length : Int)) && room (l.length : Int).toNat 24) = true := by simp [room]; omega
 rw [laws_toRowS, hroom]
 simp only [zB]
 refine (copy_loop0 (j := n) l id (fun j k s => laws_toRowS_L1 n j l (k : Int) s) (by omega) (by simp) (fun j s => by simp only [laws_toRowS_L1, lt_cast, zP, zH, zA]) (fun j k s hk hs => ?_)).trans (by simp)
 have hks : k < s.length := by omega
 have e : laws_toRow n l[k] = some l[k] := h.1 (l[k]) (hl.2 _ (zL hk))
 simp only [laws_toRowS_L1, lt_cast, zD hk, inR_true hk, zE, getD_at hk, zB, wrap_succ hk (by omega), inR_true hks, zC, id, e]
theorem szRowS_ok : EV fun n => ∀ (l : T_RowS) (s : Int), sm_RowS 140737488355328 l → 0 ≤ s → s ≤ big → laws_szRowS n l s = some (szR (cost_RowS l) s) := (szRow_ok.and (EV.gt 140737488355328)).up fun n h l s hl g0 g1 => by
 have hlen := hl.1
 rw [laws_szRowS]
 unfold cost_RowS
 refine sz_str (r := fun s => laws_szRowS_L1 n n l s (0 : Int)) (m := l.length) g0 g1 (by simp only [big]; omega) fun s g0 g1 => ?_
 refine sz_loop l _ (fun j k s => laws_szRowS_L1 n j l s (k : Int)) (fun j s => by simp only [laws_szRowS_L1, lt_cast, zP, zH, zA]) (fun j k s hk h0 h1 => ?_) l n 0 s rfl (by omega) (by omega) g0 g1
 have e : laws_szRow n l[k] s = some (szR (cost_Row l[k]) s) := h.1 (l[k]) s (hl.2 _ (zL hk)) h0 h1
 simp only [laws_szRowS_L1, lt_cast, zD hk, inR_true hk, zE, getD_at hk, zB, wrap_succ hk (by omega), e, zC]
 exact szR_step (fun s => laws_szRowS_L1 n j l s ((k + 1 : Nat) : Int)) _ h0
theorem eqRowS_ok : EV fun n => ∀ (l m : T_RowS), sm_RowS 1048576 l → laws_eqRowS n l m = some (decide (l = m)) := (eqRow_ok.and (EV.gt 1048576)).up fun n h l m hl => by
 have hlen := hl.1
 rw [laws_eqRowS]
 by_cases hlm : l.length = m.length
 ·have : ((l.length : Int) != (m.length : Int)) = false := by simp [hlm]
  simp only [this, zA]
  refine (eq_loop l m hlm (fun j k => laws_eqRowS_L1 n j l m (k : Int)) (fun j => by simp only [laws_eqRowS_L1, lt_cast, zP, zH, zA]) (fun j k hk hk2 => ?_) l n 0 rfl (by omega) (by omega)).trans (by simp)
  have e : laws_eqRow n l[k] m[k] = some (decide (l[k] = m[k])) := h.1 (l[k]) (m[k]) (hl.2 _ (zL hk))
  simp only [laws_eqRowS_L1, lt_cast, zD hk, inR_true hk, zE, getD_at hk, zB, wrap_succ hk (by omega), getD_at hk2, inR_true hk2, e, zC]
  exact eq_step (l[k]) (m[k]) _
 ·have : ((l.length : Int) != (m.length : Int)) = true := by simp; omega
  simp only [this, zB]
  congr 1; exact (zK fun h => hlm (by rw [h])).symm
abbrev T_Rows := T_RowS
def cost_Rows (x : T_Rows) : Nat := cost_RowS x + (0)
def sm_Rows (k : Nat) (x : T_Rows) : Prop := sm_RowS k x
theorem cost_sm_Rows {k : Nat} {x : T_Rows} (h : cost_Rows x ≤ k) : sm_Rows k x := by
 unfold cost_Rows at h
 unfold sm_Rows
 exact cost_sm_RowS (by omega)
theorem toRows_ok : EV fun n => ∀ x : T_Rows, sm_Rows 1048576 x → laws_toRows n x = some x := (toRowS_ok.and EV.true).up fun n h x hs => by
 unfold sm_Rows at hs
 have e0 : laws_toRowS n x = some x := h.1 x (hs)
 simp only [laws_toRows, e0, zC]
theorem szRows_ok : EV fun n => ∀ (x : T_Rows) (l : Int), sm_Rows 140737488355328 x → 0 ≤ l → l ≤ big → laws_szRows n x l = some (szR (cost_Rows x) l) := (szRowS_ok.and EV.true).up fun n h x l0 hs g0 g1 => by
 unfold sm_Rows at hs
 rw [laws_szRows]
 unfold cost_Rows
 exact sz_call g0 g1 (h.1 x l0 (hs) g0 g1) fun l1 g2 g3 => sz_end g2
theorem eqRows_ok : EV fun n => ∀ (x y : T_Rows), sm_Rows 1048576 x → laws_eqRows n x y = some (decide (x = y)) := (eqRowS_ok.and EV.true).up fun n h x y hs => by
 unfold sm_Rows at hs
 have e0 : laws_eqRowS n x y = some (decide (x = y)) := h.1 x y (hs)
 simp only [laws_eqRows, e0, zC, text_eq]
 exact eq_end _
abbrev T_RowsS := List T_Rows
def cost_RowsS (x : T_RowsS) : Nat := x.length + (x.map (cost_Rows)).sum
def sm_RowsS (k : Nat) (l : T_RowsS) : Prop := l.length ≤ k ∧ ∀ x ∈ l, sm_Rows k x
theorem cost_sm_RowsS {k : Nat} {l : T_RowsS} (h : cost_RowsS l ≤ k) : sm_RowsS k l := by
 unfold cost_RowsS at h
 unfold sm_RowsS
 refine ⟨by omega, fun x hx => ?_⟩
 have := le_sum (f := cost_Rows) hx
 exact cost_sm_Rows (by omega)
theorem toRowsS_ok : EV fun n => ∀ l : T_RowsS, sm_RowsS 1048576 l → laws_toRowsS n l = some l := (toRows_ok.and (EV.gt 1048576)).up fun n h l hl => by
 have hlen := hl.1
 have hroom : (decide ((l.length : Int) = (l.length : Int) ∧ 0 ≤ (l.length : Int)) && room (l.length : Int).toNat 24) = true := by simp [room]; omega
 rw [laws_toRowsS, hroom]
 simp only [zB]
 refine (copy_loop0 (j := n) l id (fun j k s => laws_toRowsS_L1 n j l (k : Int) s) (by omega) (by simp) (fun j s => by simp only [laws_toRowsS_L1, lt_cast, zP, zH, zA]) (fun j k s hk hs => ?_)).trans (by simp)
 have hks : k < s.length := by omega
 have e : laws_toRows n l[k] = some l[k] := h.1 (l[k]) (hl.2 _ (zL hk))
 simp only [laws_toRowsS_L1, lt_cast, zD hk, inR_true hk, zE, getD_at hk, zB, wrap_succ hk (by omega), inR_true hks, zC, id, e]
theorem szRowsS_ok : EV fun n => ∀ (l : T_RowsS) (s : Int), sm_RowsS 140737488355328 l → 0 ≤ s → s ≤ big → laws_szRowsS n l s = some (szR (cost_RowsS l) s) := (szRows_ok.and (EV.gt 140737488355328)).up fun n h l s hl g0 g1 => by
 have hlen := hl.1
 rw [laws_szRowsS]
 unfold cost_RowsS
 refine sz_str (r := fun s => laws_szRowsS_L1 n n l s (0 : Int)) (m := l.length) g0 g1 (by simp only [big]; omega) fun s g0 g1 => ?_
 refine sz_loop l _ (fun j k s => laws_szRowsS_L1 n j l s (k : Int)) (fun j s => by simp only [laws_szRowsS_L1, lt_cast, zP, zH, zA]) (fun j k s hk h0 h1 => ?_) l n 0 s rfl (by omega) (by omega) g0 g1
 have e : laws_szRows n l[k] s = some (szR (cost_Rows l[k]) s) := h.1 (l[k]) s (hl.2 _ (zL hk)) h0 h1
 simp only [laws_szRowsS_L1, lt_cast, zD hk, inR_true hk, zE, getD_at hk, zB, wrap_succ hk (by omega), e, zC]
 exact szR_step (fun s => laws_szRowsS_L1 n j l s ((k + 1 : Nat) : Int)) _ h0
theorem eqRowsS_ok : EV fun n => ∀ (l m : T_RowsS), sm_RowsS 1048576 l → laws_eqRowsS n l m = some (decide (l = m)) := (eqRows_ok.and (EV.gt 1048576)).up fun n h l m hl => by
 have hlen := hl.1
 rw [laws_eqRowsS]
 by_cases hlm : l.length = m.length
 ·have : ((l.length : Int) != (m.length : Int)) = false := by simp [hlm]
  simp only [this, zA]
  refine (eq_loop l m hlm (fun j k => laws_eqRowsS_L1 n j l m (k : Int)) (fun j => by simp only [laws_eqRowsS_L1, lt_cast, zP, zH, zA]) (fun j k hk hk2 => ?_) l n 0 rfl (by omega) (by omega)).trans (by simp)
  have e : laws_eqRows n l[k] m[k] = some (decide (l[k] = m[k])) := h.1 (l[k]) (m[k]) (hl.2 _ (zL hk))
  simp only [laws_eqRowsS_L1, lt_cast, zD hk, inR_true hk, zE, getD_at hk, zB, wrap_succ hk (by omega), getD_at hk2, inR_true hk2, e, zC]
  exact eq_step (l[k]) (m[k]) _
 ·have : ((l.length : Int) != (m.length : Int)) = true := by simp; omega
  simp only [this, zB]
  congr 1; exact (zK fun h => hlm (by rw [h])).symm
abbrev T_Db := T_Cat × (T_RowsS)
instance i_Db : DecidableEq T_Db := @instDecidableEqProd _ _ inferInstance (inferInstance)
def cost_Db (x : T_Db) : Nat := cost_Cat x.1 + (cost_RowsS x.2 + (0))
def sm_Db (k : Nat) (x : T_Db) : Prop := sm_Cat k x.1 ∧ sm_RowsS k x.2
theorem cost_sm_Db {k : Nat} {x : T_Db} (h : cost_Db x ≤ k) : sm_Db k x := by
 unfold cost_Db at h
 unfold sm_Db
 exact ⟨cost_sm_Cat (by omega), cost_sm_RowsS (by omega)⟩
theorem toDb_ok : EV fun n => ∀ x : T_Db, sm_Db 1048576 x → laws_toDb n x.1 x.2 = some x := (toCat_ok.and (toRowsS_ok.and EV.true)).up fun n h x hs => by
 unfold sm_Db at hs
 have e0 : laws_toCat n x.1 = some x.1 := h.1 x.1 (hs.1)
 have e1 : laws_toRowsS n x.2 = some x.2 := h.2.1 x.2 (hs.2)
 simp only [laws_toDb, e0, e1, zC]
theorem szDb_ok : EV fun n => ∀ (x : T_Db) (l : Int), sm_Db 140737488355328 x → 0 ≤ l → l ≤ big → laws_szDb n x.1 x.2 l = some (szR (cost_Db x) l) := (szCat_ok.and (szRowsS_ok.and EV.true)).up fun n h x l0 hs g0 g1 => by
 unfold sm_Db at hs
 rw [laws_szDb]
 unfold cost_Db
 exact sz_call g0 g1 (h.1 x.1 l0 (hs.1) g0 g1) fun l1 g2 g3 => sz_call g2 g3 (h.2.1 x.2 l1 (hs.2) g2 g3) fun l2 g4 g5 => sz_end g4
theorem eqDb_ok : EV fun n => ∀ (x y : T_Db), sm_Db 1048576 x → laws_eqDb n x.1 x.2 y.1 y.2 = some (decide (x = y)) := (eqCat_ok.and (eqRowsS_ok.and EV.true)).up fun n h x y hs => by
 unfold sm_Db at hs
 have e0 : laws_eqCat n x.1 y.1 = some (decide (x.1 = y.1)) := h.1 x.1 y.1 (hs.1)
 have e1 : laws_eqRowsS n x.2 y.2 = some (decide (x.2 = y.2)) := h.2.1 x.2 y.2 (hs.2)
 simp only [laws_eqDb, e0, e1, zC, text_eq]
 obtain ⟨x0 , x1⟩ := x
 obtain ⟨y0 , y1⟩ := y
 simp only [eq_step, eq_step2, eq_step3, eq_last, eq_and]
 exact congrArg some (decide_eq_decide.mpr (by simp only [zR]))
abbrev T_Ddl := Int × (ByteArray × (T_ColS × (T_StringS × (ByteArray × (ByteArray)))))
instance i_Ddl : DecidableEq T_Ddl := @instDecidableEqProd _ _ inferInstance (@instDecidableEqProd _ _ inferInstance (@instDecidableEqProd _ _ inferInstance (@instDecidableEqProd _ _ inferInstance (@instDecidableEqProd _ _ inferInstance (inferInstance)))))
def cost_Ddl (x : T_Ddl) : Nat := x.2.1.size + (cost_ColS x.2.2.1 + (cost_StringS x.2.2.2.1 + (x.2.2.2.2.1.size + (x.2.2.2.2.2.size + (0)))))
def sm_Ddl (k : Nat) (x : T_Ddl) : Prop := x.2.1.size ≤ k ∧ sm_ColS k x.2.2.1 ∧ sm_StringS k x.2.2.2.1 ∧ x.2.2.2.2.1.size ≤ k ∧ x.2.2.2.2.2.size ≤ k
theorem cost_sm_Ddl {k : Nat} {x : T_Ddl} (h : cost_Ddl x ≤ k) : sm_Ddl k x := by
 unfold cost_Ddl at h
 unfold sm_Ddl
 exact ⟨by omega, cost_sm_ColS (by omega), cost_sm_StringS (by omega), by omega, by omega⟩
theorem toDdl_ok : EV fun n => ∀ x : T_Ddl, sm_Ddl 1048576 x → laws_toDdl n x.1 x.2.1 x.2.2.1 x.2.2.2.1 x.2.2.2.2.1 x.2.2.2.2.2 = some x := (toColS_ok.and (toStringS_ok.and EV.true)).up fun n h x hs => by
 unfold sm_Ddl at hs
 have e0 : laws_toColS n x.2.2.1 = some x.2.2.1 := h.1 x.2.2.1 (hs.2.1)
 have e1 : laws_toStringS n x.2.2.2.1 = some x.2.2.2.1 := h.2.1 x.2.2.2.1 (hs.2.2.1)
 simp only [laws_toDdl, e0, e1, zC]
theorem szDdl_ok : EV fun n => ∀ (x : T_Ddl) (l : Int), sm_Ddl 140737488355328 x → 0 ≤ l → l ≤ big → laws_szDdl n x.1 x.2.1 x.2.2.1 x.2.2.2.1 x.2.2.2.2.1 x.2.2.2.2.2 l = some (szR (cost_Ddl x) l) := (szColS_ok.and (szStringS_ok.and EV.true)).up fun n h x l0 hs g0 g1 => by
 unfold sm_Ddl at hs
 rw [laws_szDdl]
 unfold cost_Ddl
 exact sz_str (m := x.2.1.size) g0 g1 (by have := hs.1; simp only [big]; omega) fun l1 g2 g3 => sz_call g2 g3 (h.1 x.2.2.1 l1 (hs.2.1) g2 g3) fun l2 g4 g5 => sz_call g4 g5 (h.2.1 x.2.2.2.1 l2 (hs.2.2.1) g4 g5) fun l3 g6 g7 => sz_str (m := x.2.2.2.2.1.size) g6 g7 (by have := hs.2.2.2.1; simp only [big]; omega) fun l4 g8 g9 => sz_str (m := x.2.2.2.2.2.size) g8 g9 (by have := hs.2.2.2.2; simp only [big]; omega) fun l5 g10 g11 => sz_end g10
theorem eqDdl_ok : EV fun n => ∀ (x y : T_Ddl), sm_Ddl 1048576 x → laws_eqDdl n x.1 x.2.1 x.2.2.1 x.2.2.2.1 x.2.2.2.2.1 x.2.2.2.2.2 y.1 y.2.1 y.2.2.1 y.2.2.2.1 y.2.2.2.2.1 y.2.2.2.2.2 = some (decide (x = y)) := (eqColS_ok.and (eqStringS_ok.and EV.true)).up fun n h x y hs => by
 unfold sm_Ddl at hs
 have e0 : laws_eqColS n x.2.2.1 y.2.2.1 = some (decide (x.2.2.1 = y.2.2.1)) := h.1 x.2.2.1 y.2.2.1 (hs.2.1)
 have e1 : laws_eqStringS n x.2.2.2.1 y.2.2.2.1 = some (decide (x.2.2.2.1 = y.2.2.2.1)) := h.2.1 x.2.2.2.1 y.2.2.2.1 (hs.2.2.1)
 simp only [laws_eqDdl, e0, e1, zC, text_eq]
 obtain ⟨x0 , x1 , x2 , x3 , x4 , x5⟩ := x
 obtain ⟨y0 , y1 , y2 , y3 , y4 , y5⟩ := y
 simp only [eq_step, eq_step2, eq_step3, eq_last, eq_and]
 exact congrArg some (decide_eq_decide.mpr (by simp only [zR]))
abbrev T_Stmt := Int × (ByteArray × (T_ValS × (T_Row × (T_Ddl))))
instance i_Stmt : DecidableEq T_Stmt := @instDecidableEqProd _ _ inferInstance (@instDecidableEqProd _ _ inferInstance (@instDecidableEqProd _ _ inferInstance (@instDecidableEqProd _ _ inferInstance (inferInstance))))
def cost_Stmt (x : T_Stmt) : Nat := x.2.1.size + (cost_ValS x.2.2.1 + (cost_Row x.2.2.2.1 + (cost_Ddl x.2.2.2.2 + (0))))
def sm_Stmt (k : Nat) (x : T_Stmt) : Prop := x.2.1.size ≤ k ∧ sm_ValS k x.2.2.1 ∧ sm_Row k x.2.2.2.1 ∧ sm_Ddl k x.2.2.2.2
theorem cost_sm_Stmt {k : Nat} {x : T_Stmt} (h : cost_Stmt x ≤ k) : sm_Stmt k x := by
 unfold cost_Stmt at h
 unfold sm_Stmt
 exact ⟨by omega, cost_sm_ValS (by omega), cost_sm_Row (by omega), cost_sm_Ddl (by omega)⟩
theorem toStmt_ok : EV fun n => ∀ x : T_Stmt, sm_Stmt 1048576 x → laws_toStmt n x.1 x.2.1 x.2.2.1 x.2.2.2.1 x.2.2.2.2.1 x.2.2.2.2.2.1 x.2.2.2.2.2.2.1 x.2.2.2.2.2.2.2.1 x.2.2.2.2.2.2.2.2.1 x.2.2.2.2.2.2.2.2.2 = some x := (toValS_ok.and (toRow_ok.and (toDdl_ok.and EV.true))).up fun n h x hs => by
 unfold sm_Stmt at hs
 have e0 : laws_toValS n x.2.2.1 = some x.2.2.1 := h.1 x.2.2.1 (hs.2.1)
 have e1 : laws_toRow n x.2.2.2.1 = some x.2.2.2.1 := h.2.1 x.2.2.2.1 (hs.2.2.1)
 have e2 : laws_toDdl n x.2.2.2.2.1 x.2.2.2.2.2.1 x.2.2.2.2.2.2.1 x.2.2.2.2.2.2.2.1 x.2.2.2.2.2.2.2.2.1 x.2.2.2.2.2.2.2.2.2 = some x.2.2.2.2 := h.2.2.1 x.2.2.2.2 (hs.2.2.2)
 simp only [laws_toStmt, e0, e1, e2, zC]
theorem szStmt_ok : EV fun n => ∀ (x : T_Stmt) (l : Int), sm_Stmt 140737488355328 x → 0 ≤ l → l ≤ big → laws_szStmt n x.1 x.2.1 x.2.2.1 x.2.2.2.1 x.2.2.2.2.1 x.2.2.2.2.2.1 x.2.2.2.2.2.2.1 x.2.2.2.2.2.2.2.1 x.2.2.2.2.2.2.2.2.1 x.2.2.2.2.2.2.2.2.2 l = some (szR (cost_Stmt x) l) := (szValS_ok.and (szRow_ok.and (szDdl_ok.and EV.true))).up fun n h x l0 hs g0 g1 => by
 unfold sm_Stmt at hs
 rw [laws_szStmt]
 unfold cost_Stmt
 exact sz_str (m := x.2.1.size) g0 g1 (by have := hs.1; simp only [big]; omega) fun l1 g2 g3 => sz_call g2 g3 (h.1 x.2.2.1 l1 (hs.2.1) g2 g3) fun l2 g4 g5 => sz_call g4 g5 (h.2.1 x.2.2.2.1 l2 (hs.2.2.1) g4 g5) fun l3 g6 g7 => sz_call g6 g7 (h.2.2.1 x.2.2.2.2 l3 (hs.2.2.2) g6 g7) fun l4 g8 g9 => sz_end g8
theorem eqStmt_ok : EV fun n => ∀ (x y : T_Stmt), sm_Stmt 1048576 x → laws_eqStmt n x.1 x.2.1 x.2.2.1 x.2.2.2.1 x.2.2.2.2.1 x.2.2.2.2.2.1 x.2.2.2.2.2.2.1 x.2.2.2.2.2.2.2.1 x.2.2.2.2.2.2.2.2.1 x.2.2.2.2.2.2.2.2.2 y.1 y.2.1 y.2.2.1 y.2.2.2.1 y.2.2.2.2.1 y.2.2.2.2.2.1 y.2.2.2.2.2.2.1 y.2.2.2.2.2.2.2.1 y.2.2.2.2.2.2.2.2.1 y.2.2.2.2.2.2.2.2.2 = some (decide (x = y)) := (eqValS_ok.and (eqRow_ok.and (eqDdl_ok.and EV.true))).up fun n h x y hs => by
 unfold sm_Stmt at hs
 have e0 : laws_eqValS n x.2.2.1 y.2.2.1 = some (decide (x.2.2.1 = y.2.2.1)) := h.1 x.2.2.1 y.2.2.1 (hs.2.1)
 have e1 : laws_eqRow n x.2.2.2.1 y.2.2.2.1 = some (decide (x.2.2.2.1 = y.2.2.2.1)) := h.2.1 x.2.2.2.1 y.2.2.2.1 (hs.2.2.1)
 have e2 : laws_eqDdl n x.2.2.2.2.1 x.2.2.2.2.2.1 x.2.2.2.2.2.2.1 x.2.2.2.2.2.2.2.1 x.2.2.2.2.2.2.2.2.1 x.2.2.2.2.2.2.2.2.2 y.2.2.2.2.1 y.2.2.2.2.2.1 y.2.2.2.2.2.2.1 y.2.2.2.2.2.2.2.1 y.2.2.2.2.2.2.2.2.1 y.2.2.2.2.2.2.2.2.2 = some (decide (x.2.2.2.2 = y.2.2.2.2)) := h.2.2.1 x.2.2.2.2 y.2.2.2.2 (hs.2.2.2)
 simp only [laws_eqStmt, e0, e1, e2, zC, text_eq]
 obtain ⟨x0 , x1 , x2 , x3 , x4⟩ := x
 obtain ⟨y0 , y1 , y2 , y3 , y4⟩ := y
 simp only [eq_step, eq_step2, eq_step3, eq_last, eq_and]
 exact congrArg some (decide_eq_decide.mpr (by simp only [zR]))
abbrev T_StmtS := List T_Stmt
def cost_StmtS (x : T_StmtS) : Nat := x.length + (x.map (cost_Stmt)).sum
def sm_StmtS (k : Nat) (l : T_StmtS) : Prop := l.length ≤ k ∧ ∀ x ∈ l, sm_Stmt k x
theorem cost_sm_StmtS {k : Nat} {l : T_StmtS} (h : cost_StmtS l ≤ k) : sm_StmtS k l := by
 unfold cost_StmtS at h
 unfold sm_StmtS
 refine ⟨by omega, fun x hx => ?_⟩
 have := le_sum (f := cost_Stmt) hx
 exact cost_sm_Stmt (by omega)
theorem toStmtS_ok : EV fun n => ∀ l : T_StmtS, sm_StmtS 1048576 l → laws_toStmtS n l = some l := (toStmt_ok.and (EV.gt 1048576)).up fun n h l hl => by
 have hlen := hl.1
 have hroom : (decide ((l.length : Int) = (l.length : Int) ∧ 0 ≤ (l.length : Int)) && room (l.length : Int).toNat 176) = true := by simp [room]; omega
 rw [laws_toStmtS, hroom]
 simp only [zB]
 refine (copy_loop0 (j := n) l id (fun j k s => laws_toStmtS_L1 n j l (k : Int) s) (by omega) (by simp) (fun j s => by simp only [laws_toStmtS_L1, lt_cast, zP, zH, zA]) (fun j k s hk hs => ?_)).trans (by simp)
 have hks : k < s.length := by omega
 have e : laws_toStmt n l[k].1 l[k].2.1 l[k].2.2.1 l[k].2.2.2.1 l[k].2.2.2.2.1 l[k].2.2.2.2.2.1 l[k].2.2.2.2.2.2.1 l[k].2.2.2.2.2.2.2.1 l[k].2.2.2.2.2.2.2.2.1 l[k].2.2.2.2.2.2.2.2.2 = some l[k] := h.1 (l[k]) (hl.2 _ (zL hk))
 simp only [laws_toStmtS_L1, lt_cast, zD hk, inR_true hk, zE, getD_at hk, zB, wrap_succ hk (by omega), inR_true hks, zC, id, e]
theorem szStmtS_ok : EV fun n => ∀ (l : T_StmtS) (s : Int), sm_StmtS 140737488355328 l → 0 ≤ s → s ≤ big → laws_szStmtS n l s = some (szR (cost_StmtS l) s) := (szStmt_ok.and (EV.gt 140737488355328)).up fun n h l s hl g0 g1 => by
 have hlen := hl.1
 rw [laws_szStmtS]
 unfold cost_StmtS
 refine sz_str (r := fun s => laws_szStmtS_L1 n n l s (0 : Int)) (m := l.length) g0 g1 (by simp only [big]; omega) fun s g0 g1 => ?_
 refine sz_loop l _ (fun j k s => laws_szStmtS_L1 n j l s (k : Int)) (fun j s => by simp only [laws_szStmtS_L1, lt_cast, zP, zH, zA]) (fun j k s hk h0 h1 => ?_) l n 0 s rfl (by omega) (by omega) g0 g1
 have e : laws_szStmt n l[k].1 l[k].2.1 l[k].2.2.1 l[k].2.2.2.1 l[k].2.2.2.2.1 l[k].2.2.2.2.2.1 l[k].2.2.2.2.2.2.1 l[k].2.2.2.2.2.2.2.1 l[k].2.2.2.2.2.2.2.2.1 l[k].2.2.2.2.2.2.2.2.2 s = some (szR (cost_Stmt l[k]) s) := h.1 (l[k]) s (hl.2 _ (zL hk)) h0 h1
 simp only [laws_szStmtS_L1, lt_cast, zD hk, inR_true hk, zE, getD_at hk, zB, wrap_succ hk (by omega), e, zC]
 exact szR_step (fun s => laws_szStmtS_L1 n j l s ((k + 1 : Nat) : Int)) _ h0
theorem eqStmtS_ok : EV fun n => ∀ (l m : T_StmtS), sm_StmtS 1048576 l → laws_eqStmtS n l m = some (decide (l = m)) := (eqStmt_ok.and (EV.gt 1048576)).up fun n h l m hl => by
 have hlen := hl.1
 rw [laws_eqStmtS]
 by_cases hlm : l.length = m.length
 ·have : ((l.length : Int) != (m.length : Int)) = false := by simp [hlm]
  simp only [this, zA]
  refine (eq_loop l m hlm (fun j k => laws_eqStmtS_L1 n j l m (k : Int)) (fun j => by simp only [laws_eqStmtS_L1, lt_cast, zP, zH, zA]) (fun j k hk hk2 => ?_) l n 0 rfl (by omega) (by omega)).trans (by simp)
  have e : laws_eqStmt n l[k].1 l[k].2.1 l[k].2.2.1 l[k].2.2.2.1 l[k].2.2.2.2.1 l[k].2.2.2.2.2.1 l[k].2.2.2.2.2.2.1 l[k].2.2.2.2.2.2.2.1 l[k].2.2.2.2.2.2.2.2.1 l[k].2.2.2.2.2.2.2.2.2 m[k].1 m[k].2.1 m[k].2.2.1 m[k].2.2.2.1 m[k].2.2.2.2.1 m[k].2.2.2.2.2.1 m[k].2.2.2.2.2.2.1 m[k].2.2.2.2.2.2.2.1 m[k].2.2.2.2.2.2.2.2.1 m[k].2.2.2.2.2.2.2.2.2 = some (decide (l[k] = m[k])) := h.1 (l[k]) (m[k]) (hl.2 _ (zL hk))
  simp only [laws_eqStmtS_L1, lt_cast, zD hk, inR_true hk, zE, getD_at hk, zB, wrap_succ hk (by omega), getD_at hk2, inR_true hk2, e, zC]
  exact eq_step (l[k]) (m[k]) _
 ·have : ((l.length : Int) != (m.length : Int)) = true := by simp; omega
  simp only [this, zB]
  congr 1; exact (zK fun h => hlm (by rw [h])).symm
abbrev T_Rec := Int × (Int × (T_Stmt))
instance i_Rec : DecidableEq T_Rec := @instDecidableEqProd _ _ inferInstance (@instDecidableEqProd _ _ inferInstance (inferInstance))
theorem markText_run : ∀ (d : Nat) (k : Int) (s : ByteArray), k < 10 ^ d → k ≤ 9223372036854775807 → s.size + d ≤ 1000 → ∃ r, ∀ n j, d < j → laws_markText_L1 n j k s = some r
 | 0, k, s, h, _, hs => by
  refine ⟨(⟨#[109]⟩ : ByteArray) ++ s, fun n j hj => ?_⟩
  obtain ⟨j, rfl⟩ : ∃ i, j = i + 1 := ⟨j - 1, by omega⟩
  have h' : ¬ (0 < k) := by simp at h; omega
  have e : (⟨#[109]⟩ : ByteArray).size = 1 := rfl
  simp only [laws_markText_L1, zK h', zA, e]
  rw [zD (by omega), zB]
 | d + 1, k, s, h, hm, hs => by
  by_cases h' : 0 < k
  ·have h10 : (10 : Int) ^ (d + 1) = 10 ^ d * 10 := Int.pow_succ ..
   have he : k.tdiv 10 = k / 10 := Int.tdiv_eq_ediv_of_nonneg (by omega)
   have hd : k / 10 < 10 ^ d := by omega
   have e : ∀ x : Int, (strOfNums [x]).size = 1 := fun x => rfl
   obtain ⟨r, hr⟩ := markText_run d (k / 10) (strOfNums [IntKind.wrap .u8 (IntKind.wrap .i64 ((48 : Int) + (Int.tmod k (10 : Int))))] ++ s) hd (by omega) (by simp [e]; omega)
   refine ⟨r, fun n j hj => ?_⟩
   obtain ⟨j, rfl⟩ : ∃ i, j = i + 1 := ⟨j - 1, by omega⟩
   simp only [laws_markText_L1, zD h', zB, e]
   rw [zD (show 1 + s.size ≤ 9223372036854775807 by omega), he, wrap64 (x := k / 10) (by omega) (by omega)]
   simp only [zB]
   exact hr n j (by omega)
  ·refine ⟨(⟨#[109]⟩ : ByteArray) ++ s, fun n j hj => ?_⟩
   obtain ⟨j, rfl⟩ : ∃ i, j = i + 1 := ⟨j - 1, by omega⟩
   have e : (⟨#[109]⟩ : ByteArray).size = 1 := rfl
   simp only [laws_markText_L1, zK h', zA, e]
   rw [zD (by omega), zB]
def mtx (k : Int) : ByteArray := (laws_markText 40 k).getD ⟨#[]⟩
theorem markText_ok : EV fun n => ∀ k : Int, k ≤ 9223372036854775807 → laws_markText n k = some (mtx k) := (EV.gt 40).up fun n hn k hk => by
 obtain ⟨r, hr⟩ := markText_run 20 k ⟨#[]⟩ (Int.lt_of_le_of_lt hk (by decide)) hk (by decide)
 unfold mtx
 simp only [laws_markText]
 rw [hr n n (by omega), hr 39 39 (by omega)]
 cases decide (k ≤ 0) <;> rfl

def mc_ValS (x : T_ValS) : Nat := mcL (fun _ => 3) x
def mk_ValS (k : Int) (x : T_ValS) : T_ValS := mkL (fun k _ => (k, (k + 1, mtx (k + 2)))) (fun _ => 3) k x
theorem mb_ValS {x : T_ValS} (h : sm_ValS 1048576 x) : mc_ValS x ≤ 3145728 := mcL_le' (b := 3) (fun _ _ => by decide) h.1 (by decide)
theorem markValS_ok : EV fun n => ∀ (x : T_ValS) (k : Int), sm_ValS 1048576 x → 0 ≤ k → k + mc_ValS x ≤ markMax → laws_markValS_o n x k = some (k + mc_ValS x, (mk_ValS k x, ())) := (markText_ok.and (EV.gt 1048578)).up fun n ⟨h, hn⟩ x k hs h0 h1 => by
 have hl := hs.1
 have d3 : decide ((3 : Int) = 0) = false := by decide
 rw [laws_markValS_o]
 refine mark_loop (fun k _ => (k, (k + 1, mtx (k + 2)))) (fun _ => 3) (fun _ => True) (fun j k i l => laws_markValS_o_L1 n j k i l) (fun j k l => by simp only [laws_markValS_o_L1, lt_cast, zP, zH, zA]) (fun j k i l hi _ h0 h1 hl => ?_) x [] n k (by omega) (by simp; omega) (fun _ _ => trivial) h0 h1
 simp only [markMax] at h1
 simp only [laws_markValS_o_L1, lt_cast, zD hi, inR_true hi, zB, zE, wrap_succ hi (by omega)]
 simp (disch := omega) only [wrapk, List.length_set, getD_at hi, setAt, inR_true hi, zB, List.set_set, h, zC, Int.add_assoc, Int.reduceAdd, zE]
 rfl
theorem heldValS_ok : EV fun n => ∀ (x : T_ValS) (k : Int), sm_ValS 1048576 x → 0 ≤ k → k + mc_ValS x ≤ markMax → laws_heldValS n (mk_ValS k x) k = some (k + mc_ValS x) := (markText_ok.and (EV.gt 1048578)).up fun n ⟨h, hn⟩ x k hs h0 h1 => by
 have hl := hs.1
 have d3 : decide ((3 : Int) = 0) = false := by decide
 have hlen := mkL_len (fun (k : Int) (_ : T_Val) => (k, (k + 1, mtx (k + 2)))) (fun _ => 3) x k
 rw [laws_heldValS]
 refine held_loop (fun k _ => (k, (k + 1, mtx (k + 2)))) (fun _ => 3) (fun _ => True) (mk_ValS k x) (fun j k' i => laws_heldValS_L1 n j (mk_ValS k x) k' i) (by unfold mk_ValS; omega) (fun j k' => by simp only [laws_heldValS_L1, lt_cast, zP, zH, zA]) (fun j k' i y hi _ hx h0 h1 => ?_) x [] n k rfl (by omega) (fun _ _ => trivial) h0 h1
 have hi2 : i < 1048578 := by unfold mk_ValS at hi; omega
 simp only [markMax] at h1
 simp only [laws_heldValS_L1, lt_cast, zD hi, inR_true hi, zB, zE, getD_at hi, hx]
 rw [wrap64 (x := (i : Int) + 1) (by omega) (by omega), show (i : Int) + 1 = ((i + 1 : Nat) : Int) by omega]
 simp (disch := omega) only [wrapk, h, d3, zC, Int.add_assoc, Int.reduceAdd, bne_self_eq_false, BEq.rfl, zT, zU, zA, zB]
 rfl
def mc_ColS (x : T_ColS) : Nat := mcL (fun _ => 7) x
def mk_ColS (k : Int) (x : T_ColS) : T_ColS := mkL (fun k _ => (mtx k, (k + 1, (Int.tmod (k + 2) 3 == 0, (Int.tmod (k + 3) 3 == 0, (k + 4, (k + 5, mtx (k + 6)))))))) (fun _ => 7) k x
theorem mb_ColS {x : T_ColS} (h : sm_ColS 1048576 x) : mc_ColS x ≤ 7340032 := mcL_le' (b := 7) (fun _ _ => by decide) h.1 (by decide)
theorem markColS_ok : EV fun n => ∀ (x : T_ColS) (k : Int), sm_ColS 1048576 x → 0 ≤ k → k + mc_ColS x ≤ markMax → laws_markColS_o n x k = some (k + mc_ColS x, (mk_ColS k x, ())) := (markText_ok.and (EV.gt 1048578)).up fun n ⟨h, hn⟩ x k hs h0 h1 => by
 have hl := hs.1
 have d3 : decide ((3 : Int) = 0) = false := by decide
 rw [laws_markColS_o]
 refine mark_loop (fun k _ => (mtx k, (k + 1, (Int.tmod (k + 2) 3 == 0, (Int.tmod (k + 3) 3 == 0, (k + 4, (k + 5, mtx (k + 6)))))))) (fun _ => 7) (fun _ => True) (fun j k i l => laws_markColS_o_L1 n j k i l) (fun j k l => by simp only [laws_markColS_o_L1, lt_cast, zP, zH, zA]) (fun j k i l hi _ h0 h1 hl => ?_) x [] n k (by omega) (by simp; omega) (fun _ _ => trivial) h0 h1
 simp only [markMax] at h1
 simp only [laws_markColS_o_L1, lt_cast, zD hi, inR_true hi, zB, zE, wrap_succ hi (by omega)]
 simp (disch := omega) only [wrapk, List.length_set, getD_at hi, setAt, inR_true hi, zB, List.set_set, h, zC, Int.add_assoc, Int.reduceAdd, zE, d3, zU]
 rfl
theorem heldColS_ok : EV fun n => ∀ (x : T_ColS) (k : Int), sm_ColS 1048576 x → 0 ≤ k → k + mc_ColS x ≤ markMax → laws_heldColS n (mk_ColS k x) k = some (k + mc_ColS x) := (markText_ok.and (EV.gt 1048578)).up fun n ⟨h, hn⟩ x k hs h0 h1 => by
 have hl := hs.1
 have d3 : decide ((3 : Int) = 0) = false := by decide
 have hlen := mkL_len (fun (k : Int) (_ : T_Col) => (mtx k, (k + 1, (Int.tmod (k + 2) 3 == 0, (Int.tmod (k + 3) 3 == 0, (k + 4, (k + 5, mtx (k + 6)))))))) (fun _ => 7) x k
 rw [laws_heldColS]
 refine held_loop (fun k _ => (mtx k, (k + 1, (Int.tmod (k + 2) 3 == 0, (Int.tmod (k + 3) 3 == 0, (k + 4, (k + 5, mtx (k + 6)))))))) (fun _ => 7) (fun _ => True) (mk_ColS k x) (fun j k' i => laws_heldColS_L1 n j (mk_ColS k x) k' i) (by unfold mk_ColS; omega) (fun j k' => by simp only [laws_heldColS_L1, lt_cast, zP, zH, zA]) (fun j k' i y hi _ hx h0 h1 => ?_) x [] n k rfl (by omega) (fun _ _ => trivial) h0 h1
 have hi2 : i < 1048578 := by unfold mk_ColS at hi; omega
 simp only [markMax] at h1
 simp only [laws_heldColS_L1, lt_cast, zD hi, inR_true hi, zB, zE, getD_at hi, hx]
 rw [wrap64 (x := (i : Int) + 1) (by omega) (by omega), show (i : Int) + 1 = ((i + 1 : Nat) : Int) by omega]
 simp (disch := omega) only [wrapk, h, d3, zC, Int.add_assoc, Int.reduceAdd, bne_self_eq_false, BEq.rfl, zT, zU, zA, zB]
 rfl
def mc_StringS (x : T_StringS) : Nat := mcL (fun _ => 1) x
def mk_StringS (k : Int) (x : T_StringS) : T_StringS := mkL (fun k _ => mtx k) (fun _ => 1) k x
theorem mb_StringS {x : T_StringS} (h : sm_StringS 1048576 x) : mc_StringS x ≤ 1048576 := mcL_le' (b := 1) (fun _ _ => by decide) h.1 (by decide)
theorem markStringS_okK : EV fun n => ∀ (x : T_StringS) (k : Int), sm_StringS 1048577 x → 0 ≤ k → k + mc_StringS x ≤ markMax → laws_markStringS_o n x k = some (k + mc_StringS x, (mk_StringS k x, ())) := (markText_ok.and (EV.gt 1048578)).up fun n ⟨h, hn⟩ x k hs h0 h1 => by
 have hl := hs.1
 have d3 : decide ((3 : Int) = 0) = false := by decide
 rw [laws_markStringS_o]
 refine mark_loop (fun k _ => mtx k) (fun _ => 1) (fun _ => True) (fun j k i l => laws_markStringS_o_L1 n j k i l) (fun j k l => by simp only [laws_markStringS_o_L1, lt_cast, zP, zH, zA]) (fun j k i l hi _ h0 h1 hl => ?_) x [] n k (by omega) (by simp; omega) (fun _ _ => trivial) h0 h1
 simp only [markMax] at h1
 simp only [laws_markStringS_o_L1, lt_cast, zD hi, inR_true hi, zB, zE, wrap_succ hi (by omega)]
 simp (disch := omega) only [wrapk, List.length_set, getD_at hi, setAt, inR_true hi, zB, List.set_set, h, zC, Int.add_assoc, Int.reduceAdd, zE]
 rfl
theorem markStringS_ok : EV fun n => ∀ (x : T_StringS) (k : Int), sm_StringS 1048576 x → 0 ≤ k → k + mc_StringS x ≤ markMax → laws_markStringS_o n x k = some (k + mc_StringS x, (mk_StringS k x, ())) := markStringS_okK.mono fun n h x k hs h0 h1 => h x k (sm_up hs) h0 h1
theorem heldStringS_okK : EV fun n => ∀ (x : T_StringS) (k : Int), sm_StringS 1048577 x → 0 ≤ k → k + mc_StringS x ≤ markMax → laws_heldStringS n (mk_StringS k x) k = some (k + mc_StringS x) := (markText_ok.and (EV.gt 1048578)).up fun n ⟨h, hn⟩ x k hs h0 h1 => by
 have hl := hs.1
 have d3 : decide ((3 : Int) = 0) = false := by decide
 have hlen := mkL_len (fun (k : Int) (_ : ByteArray) => mtx k) (fun _ => 1) x k
 rw [laws_heldStringS]
 refine held_loop (fun k _ => mtx k) (fun _ => 1) (fun _ => True) (mk_StringS k x) (fun j k' i => laws_heldStringS_L1 n j (mk_StringS k x) k' i) (by unfold mk_StringS; omega) (fun j k' => by simp only [laws_heldStringS_L1, lt_cast, zP, zH, zA]) (fun j k' i y hi _ hx h0 h1 => ?_) x [] n k rfl (by omega) (fun _ _ => trivial) h0 h1
 have hi2 : i < 1048578 := by unfold mk_StringS at hi; omega
 simp only [markMax] at h1
 simp only [laws_heldStringS_L1, lt_cast, zD hi, inR_true hi, zB, zE, getD_at hi, hx]
 rw [wrap64 (x := (i : Int) + 1) (by omega) (by omega), show (i : Int) + 1 = ((i + 1 : Nat) : Int) by omega]
 simp (disch := omega) only [wrapk, h, d3, zC, Int.add_assoc, Int.reduceAdd, bne_self_eq_false, BEq.rfl, zT, zU, zA, zB]
 rfl
theorem heldStringS_ok : EV fun n => ∀ (x : T_StringS) (k : Int), sm_StringS 1048576 x → 0 ≤ k → k + mc_StringS x ≤ markMax → laws_heldStringS n (mk_StringS k x) k = some (k + mc_StringS x) := heldStringS_okK.mono fun n h x k hs h0 h1 => h x k (sm_up hs) h0 h1
def mc_TableS (x : T_TableS) : Nat := mcL (fun y => 1 + mc_ColS y.2.1 + mc_StringS y.2.2) x
def mk_TableS (k : Int) (x : T_TableS) : T_TableS := mkL (fun k y => (mtx k, (mk_ColS (k + 1) y.2.1, mk_StringS ((k + 1) + (mc_ColS y.2.1 : Int)) y.2.2))) (fun y => 1 + mc_ColS y.2.1 + mc_StringS y.2.2) k x
theorem mb_TableS {x : T_TableS} (h : sm_TableS 1048576 x) : mc_TableS x ≤ 8796094070784 := mcL_le' (b := 8388609) (fun y hy => by
 have hp := h.2 y hy
 have := mb_ColS (x := y.2.1) hp.2.1
 have := mb_StringS (x := y.2.2) hp.2.2
 omega) h.1 (by decide)
theorem markTableS_ok : EV fun n => ∀ (x : T_TableS) (k : Int), sm_TableS 1048576 x → 0 ≤ k → k + mc_TableS x ≤ markMax → laws_markTableS_o n x k = some (k + mc_TableS x, (mk_TableS k x, ())) := (markText_ok.and (markColS_ok.and (markStringS_ok.and (EV.gt 1048578)))).up fun n h x k hs h0 h1 => by
 have hl := hs.1
 have hn := h.2.2.2
 rw [laws_markTableS_o]
 refine mark_loop (fun k y => (mtx k, (mk_ColS (k + 1) y.2.1, mk_StringS ((k + 1) + (mc_ColS y.2.1 : Int)) y.2.2))) (fun y => 1 + mc_ColS y.2.1 + mc_StringS y.2.2) (fun y => sm_Table 1048576 y) (fun j k i l => laws_markTableS_o_L1 n j k i l) (fun j k l => by simp only [laws_markTableS_o_L1, lt_cast, zP, zH, zA]) (fun j k i l hi hp h0 h1 hl => ?_) x [] n k (by omega) (by simp; omega) hs.2 h0 h1
 simp only [markMax] at h1
 have e0 := h.1 k (by omega)
 have e1 := h.2.1 l[i].2.1 (k + 1) hp.2.1 (by omega) (by simp only [markMax]; omega)
 have e2 := h.2.2.1 l[i].2.2 (k + 1 + (mc_ColS l[i].2.1 : Int)) hp.2.2 (by omega) (by simp only [markMax]; omega)
 simp only [laws_markTableS_o_L1, lt_cast, zD hi, inR_true hi, zB, zE, wrap_succ hi (by omega)]
 simp (disch := omega) only [wrapk, List.length_set, getD_at hi, setAt, inR_true hi, zB, List.set_set, e0, e1, e2, zC]
 congr 1
 omega
theorem heldTableS_ok : EV fun n => ∀ (x : T_TableS) (k : Int), sm_TableS 1048576 x → 0 ≤ k → k + mc_TableS x ≤ markMax → laws_heldTableS n (mk_TableS k x) k = some (k + mc_TableS x) := (markText_ok.and (heldColS_ok.and (heldStringS_ok.and (EV.gt 1048578)))).up fun n h x k hs h0 h1 => by
 have hl := hs.1
 have hn := h.2.2.2
 have hlen := mkL_len (fun (k : Int) (y : T_Table) => (mtx k, (mk_ColS (k + 1) y.2.1, mk_StringS ((k + 1) + (mc_ColS y.2.1 : Int)) y.2.2))) (fun y => 1 + mc_ColS y.2.1 + mc_StringS y.2.2) x k
 rw [laws_heldTableS]
 refine held_loop (fun k y => (mtx k, (mk_ColS (k + 1) y.2.1, mk_StringS ((k + 1) + (mc_ColS y.2.1 : Int)) y.2.2))) (fun y => 1 + mc_ColS y.2.1 + mc_StringS y.2.2) (fun y => sm_Table 1048576 y) (mk_TableS k x) (fun j k' i => laws_heldTableS_L1 n j (mk_TableS k x) k' i) (by unfold mk_TableS; omega) (fun j k' => by simp only [laws_heldTableS_L1, lt_cast, zP, zH, zA]) (fun j k i y hi hp hx h0 h1 => ?_) x [] n k rfl (by omega) hs.2 h0 h1
 have hi2 : i < 1048578 := by unfold mk_TableS at hi; omega
 simp only [markMax] at h1
 have e0 := h.1 k (by omega)
 have e1 := h.2.1 y.2.1 (k + 1) hp.2.1 (by omega) (by simp only [markMax]; omega)
 have d0 : decide (k + 1 + (mc_ColS y.2.1 : Int) < 0) = false := zK (by omega)
 have e2 := h.2.2.1 y.2.2 (k + 1 + (mc_ColS y.2.1 : Int)) hp.2.2 (by omega) (by simp only [markMax]; omega)
 have d1 : decide (k + 1 + (mc_ColS y.2.1 : Int) + (mc_StringS y.2.2 : Int) < 0) = false := zK (by omega)
 simp only [laws_heldTableS_L1, lt_cast, zD hi, inR_true hi, zB, zE, getD_at hi, hx]
 rw [wrap64 (x := (i : Int) + 1) (by omega) (by omega), show (i : Int) + 1 = ((i + 1 : Nat) : Int) by omega]
 simp (disch := omega) only [wrapk, e0, e1, e2, zC, d0, d1, bne_self_eq_false, BEq.rfl, zT, zU, zA, zB]
 congr 1
 omega
def mc_Cat (x : T_Cat) : Nat := mc_TableS x
theorem mb_Cat {x : T_Cat} (hs : sm_Cat 1048576 x) : mc_Cat x ≤ 8796094070784 := by
 unfold sm_Cat at hs
 have b0 := mb_TableS (x := x) hs
 unfold mc_Cat
 omega
theorem markCat_ok : EV fun n => ∀ (x : T_Cat) (k : Int), sm_Cat 1048576 x → 0 ≤ k → k + mc_Cat x ≤ markMax → laws_markCat_o n x k = some (k + mc_Cat x, (mk_TableS k x, ())) := (markTableS_ok.and EV.true).up fun n h x k hs h0 h1 => by
 unfold sm_Cat at hs
 simp only [mc_Cat] at h1 ⊢
 have e0 := h.1 x (k) hs (by omega) (by omega)
 simp only [laws_markCat_o, e0, zC]

theorem heldCat_ok : EV fun n => ∀ (x : T_Cat) (k : Int), sm_Cat 1048576 x → 0 ≤ k → k + mc_Cat x ≤ markMax → laws_heldCat n (mk_TableS (k) x) k = some (k + mc_Cat x) := (heldTableS_ok.and EV.true).up fun n h x k hs h0 h1 => by
 unfold sm_Cat at hs
 simp only [mc_Cat] at h1 ⊢
 have e0 := h.1 x (k) hs (by omega) (by omega)
 have n0 : decide (k + ((mc_TableS x : Nat) : Int) < 0) = false := zK (by omega)
 simp only [laws_heldCat, e0, zC, n0, zA]

def mc_RowS (x : T_RowS) : Nat := mcL (fun y => mc_ValS y) x
def mk_RowS (k : Int) (x : T_RowS) : T_RowS := mkL (fun k y => mk_ValS k y) (fun y => mc_ValS y) k x
theorem mb_RowS {x : T_RowS} (h : sm_RowS 1048576 x) : mc_RowS x ≤ 3298534883328 := mcL_le' (b := 3145728) (fun y hy => by
 have hp := h.2 y hy
 have := mb_ValS (x := y) hp
 omega) h.1 (by decide)
theorem markRowS_ok : EV fun n => ∀ (x : T_RowS) (k : Int), sm_RowS 1048576 x → 0 ≤ k → k + mc_RowS x ≤ markMax → laws_markRowS_o n x k = some (k + mc_RowS x, (mk_RowS k x, ())) := (markValS_ok.and (EV.gt 1048578)).up fun n h x k hs h0 h1 => by
 have hl := hs.1
 have hn := h.2
 rw [laws_markRowS_o]
 refine mark_loop (fun k y => mk_ValS k y) (fun y => mc_ValS y) (fun y => sm_Row 1048576 y) (fun j k i l => laws_markRowS_o_L1 n j k i l) (fun j k l => by simp only [laws_markRowS_o_L1, lt_cast, zP, zH, zA]) (fun j k i l hi hp h0 h1 hl => ?_) x [] n k (by omega) (by simp; omega) hs.2 h0 h1
 simp only [markMax] at h1
 have e0 := h.1 l[i] (k) hp (by omega) (by simp only [markMax]; omega)
 simp only [laws_markRowS_o_L1, lt_cast, zD hi, inR_true hi, zB, zE, getD_at hi, e0, zC, wrap_succ hi (by omega)]
theorem heldRowS_ok : EV fun n => ∀ (x : T_RowS) (k : Int), sm_RowS 1048576 x → 0 ≤ k → k + mc_RowS x ≤ markMax → laws_heldRowS n (mk_RowS k x) k = some (k + mc_RowS x) := (heldValS_ok.and (EV.gt 1048578)).up fun n h x k hs h0 h1 => by
 have hl := hs.1
 have hn := h.2
 have hlen := mkL_len (fun (k : Int) (y : T_Row) => mk_ValS k y) (fun y => mc_ValS y) x k
 rw [laws_heldRowS]
 refine held_loop (fun k y => mk_ValS k y) (fun y => mc_ValS y) (fun y => sm_Row 1048576 y) (mk_RowS k x) (fun j k' i => laws_heldRowS_L1 n j (mk_RowS k x) k' i) (by unfold mk_RowS; omega) (fun j k' => by simp only [laws_heldRowS_L1, lt_cast, zP, zH, zA]) (fun j k i y hi hp hx h0 h1 => ?_) x [] n k rfl (by omega) hs.2 h0 h1
 have hi2 : i < 1048578 := by unfold mk_RowS at hi; omega
 simp only [markMax] at h1
 have e0 := h.1 y (k) hp (by omega) (by simp only [markMax]; omega)
 have d0 : decide (k + (mc_ValS y : Int) < 0) = false := zK (by omega)
 simp only [laws_heldRowS_L1, lt_cast, zD hi, inR_true hi, zB, zE, getD_at hi, hx]
 rw [wrap64 (x := (i : Int) + 1) (by omega) (by omega), show (i : Int) + 1 = ((i + 1 : Nat) : Int) by omega]
 simp (disch := omega) only [wrapk, e0, zC, d0, bne_self_eq_false, BEq.rfl, zT, zU, zA, zB]
def mc_RowsS (x : T_RowsS) : Nat := mcL (fun y => mc_RowS y) x
def mk_RowsS (k : Int) (x : T_RowsS) : T_RowsS := mkL (fun k y => mk_RowS k y) (fun y => mc_RowS y) k x
theorem mb_RowsS {x : T_RowsS} (h : sm_RowsS 1048576 x) : mc_RowsS x ≤ 3458764513820540928 := mcL_le' (b := 3298534883328) (fun y hy => by
 have hp := h.2 y hy
 have := mb_RowS (x := y) hp
 omega) h.1 (by decide)
theorem markRowsS_ok : EV fun n => ∀ (x : T_RowsS) (k : Int), sm_RowsS 1048576 x → 0 ≤ k → k + mc_RowsS x ≤ markMax → laws_markRowsS_o n x k = some (k + mc_RowsS x, (mk_RowsS k x, ())) := (markRowS_ok.and (EV.gt 1048578)).up fun n h x k hs h0 h1 => by
 have hl := hs.1
 have hn := h.2
 rw [laws_markRowsS_o]
 refine mark_loop (fun k y => mk_RowS k y) (fun y => mc_RowS y) (fun y => sm_Rows 1048576 y) (fun j k i l => laws_markRowsS_o_L1 n j k i l) (fun j k l => by simp only [laws_markRowsS_o_L1, lt_cast, zP, zH, zA]) (fun j k i l hi hp h0 h1 hl => ?_) x [] n k (by omega) (by simp; omega) hs.2 h0 h1
 simp only [markMax] at h1
 have e0 := h.1 l[i] (k) hp (by omega) (by simp only [markMax]; omega)
 simp only [laws_markRowsS_o_L1, lt_cast, zD hi, inR_true hi, zB, zE, getD_at hi, e0, zC, wrap_succ hi (by omega)]
theorem heldRowsS_ok : EV fun n => ∀ (x : T_RowsS) (k : Int), sm_RowsS 1048576 x → 0 ≤ k → k + mc_RowsS x ≤ markMax → laws_heldRowsS n (mk_RowsS k x) k = some (k + mc_RowsS x) := (heldRowS_ok.and (EV.gt 1048578)).up fun n h x k hs h0 h1 => by
 have hl := hs.1
 have hn := h.2
 have hlen := mkL_len (fun (k : Int) (y : T_Rows) => mk_RowS k y) (fun y => mc_RowS y) x k
 rw [laws_heldRowsS]
 refine held_loop (fun k y => mk_RowS k y) (fun y => mc_RowS y) (fun y => sm_Rows 1048576 y) (mk_RowsS k x) (fun j k' i => laws_heldRowsS_L1 n j (mk_RowsS k x) k' i) (by unfold mk_RowsS; omega) (fun j k' => by simp only [laws_heldRowsS_L1, lt_cast, zP, zH, zA]) (fun j k i y hi hp hx h0 h1 => ?_) x [] n k rfl (by omega) hs.2 h0 h1
 have hi2 : i < 1048578 := by unfold mk_RowsS at hi; omega
 simp only [markMax] at h1
 have e0 := h.1 y (k) hp (by omega) (by simp only [markMax]; omega)
 have d0 : decide (k + (mc_RowS y : Int) < 0) = false := zK (by omega)
 simp only [laws_heldRowsS_L1, lt_cast, zD hi, inR_true hi, zB, zE, getD_at hi, hx]
 rw [wrap64 (x := (i : Int) + 1) (by omega) (by omega), show (i : Int) + 1 = ((i + 1 : Nat) : Int) by omega]
 simp (disch := omega) only [wrapk, e0, zC, d0, bne_self_eq_false, BEq.rfl, zT, zU, zA, zB]
def mc_Db (x : T_Db) : Nat := mc_Cat x.1 + mc_RowsS x.2
theorem mb_Db {x : T_Db} (hs : sm_Db 1048576 x) : mc_Db x ≤ 3458773309914611712 := by
 unfold sm_Db at hs
 have b0 := mb_Cat (x := x.1) hs.1
 have b1 := mb_RowsS (x := x.2) hs.2
 unfold mc_Db
 omega
theorem markDb_ok : EV fun n => ∀ (x : T_Db) (k : Int), sm_Db 1048576 x → 0 ≤ k → k + mc_Db x ≤ markMax → laws_markDb_o_o n x.1 x.2 k = some (k + mc_Db x, (mk_TableS k x.1, (mk_RowsS (k + (mc_TableS x.1 : Int)) x.2, ()))) := (markCat_ok.and (markRowsS_ok.and EV.true)).up fun n h x k hs h0 h1 => by
 unfold sm_Db at hs
 simp only [mc_Db] at h1 ⊢
 have e0 := h.1 x.1 (k) hs.1 (by omega) (by omega)
 have e1 := h.2.1 x.2 (k + (mc_Cat x.1 : Int)) hs.2 (by omega) (by omega)
 simp only [laws_markDb_o_o, e0, e1, zC]
 refine congrArg some (Prod.ext ?_ ?_)
 ·show (_ : Int) = _; omega
 ·simp only [Int.add_assoc, Int.natCast_add, mc_Cat]
theorem heldDb_ok : EV fun n => ∀ (x : T_Db) (k : Int), sm_Db 1048576 x → 0 ≤ k → k + mc_Db x ≤ markMax → laws_heldDb n (mk_TableS (k) x.1) (mk_RowsS (k + (mc_TableS x.1 : Int)) x.2) k = some (k + mc_Db x) := (heldCat_ok.and (heldRowsS_ok.and EV.true)).up fun n h x k hs h0 h1 => by
 unfold sm_Db at hs
 simp only [mc_Db] at h1 ⊢
 have e0 := h.1 x.1 (k) hs.1 (by omega) (by omega)
 have e1 := h.2.1 x.2 (k + (mc_Cat x.1 : Int)) hs.2 (by omega) (by omega)
 simp only [mc_Cat] at h1 e0 e1 ⊢
 have n0 : decide (k + ((mc_TableS x.1 : Nat) : Int) < 0) = false := zK (by omega)
 have n1 : decide (k + ((mc_TableS x.1 : Nat) : Int) + ((mc_RowsS x.2 : Nat) : Int) < 0) = false := zK (by omega)
 simp only [laws_heldDb, e0, e1, zC, n0, n1, zA]
 refine congrArg some ?_
 omega
theorem wf_str {n : Nat} (h : n ≤ reachBytes) : n ≤ 140737488355328 := Nat.le_trans h (by decide)
theorem wf_len {n b : Nat} (hb : 1 ≤ b) (h : n * b ≤ reachBytes) : n ≤ 140737488355328 := Nat.le_trans (Nat.le_trans (Nat.le_mul_of_pos_right n hb) h) (by decide)
abbrev K_Val : Kd := .pair (.int .i64) (.pair (.int .i64) (.str))
theorem wf_Val {B : Kd → Nat} (hB : ∀ g, 1 ≤ B g) (x : T_Val) (h : Wf B K_Val x) : sm_Val 140737488355328 x := wf_str h.2.2
abbrev K_ValS : Kd := .sl K_Val
theorem wf_ValS {B : Kd → Nat} (hB : ∀ g, 1 ≤ B g) (x : T_ValS) (h : Wf B K_ValS x) : sm_ValS 140737488355328 x := ⟨wf_len (hB _) h.1, fun y hy => wf_Val hB y (h.2 y hy)⟩
abbrev K_Col : Kd := .pair .str (.pair (.int .i64) (.pair .bool (.pair .bool (K_Val))))
theorem wf_Col {B : Kd → Nat} (hB : ∀ g, 1 ≤ B g) (x : T_Col) (h : Wf B K_Col x) : sm_Col 140737488355328 x := ⟨wf_str h.1, wf_Val hB x.2.2.2.2 h.2.2.2.2⟩
abbrev K_ColS : Kd := .sl K_Col
theorem wf_ColS {B : Kd → Nat} (hB : ∀ g, 1 ≤ B g) (x : T_ColS) (h : Wf B K_ColS x) : sm_ColS 140737488355328 x := ⟨wf_len (hB _) h.1, fun y hy => wf_Col hB y (h.2 y hy)⟩
abbrev K_StringS : Kd := .sl .str
theorem wf_StringS {B : Kd → Nat} (hB : ∀ g, 1 ≤ B g) (x : T_StringS) (h : Wf B K_StringS x) : sm_StringS 140737488355328 x := ⟨wf_len (hB _) h.1, fun y hy => wf_str (h.2 y hy)⟩
abbrev K_Table : Kd := .pair .str (.pair K_ColS (K_StringS))
theorem wf_Table {B : Kd → Nat} (hB : ∀ g, 1 ≤ B g) (x : T_Table) (h : Wf B K_Table x) : sm_Table 140737488355328 x := ⟨wf_str h.1, wf_ColS hB x.2.1 h.2.1, wf_StringS hB x.2.2 h.2.2⟩
abbrev K_TableS : Kd := .sl K_Table
theorem wf_TableS {B : Kd → Nat} (hB : ∀ g, 1 ≤ B g) (x : T_TableS) (h : Wf B K_TableS x) : sm_TableS 140737488355328 x := ⟨wf_len (hB _) h.1, fun y hy => wf_Table hB y (h.2 y hy)⟩
abbrev K_Cat : Kd := K_TableS
theorem wf_Cat {B : Kd → Nat} (hB : ∀ g, 1 ≤ B g) (x : T_Cat) (h : Wf B K_Cat x) : sm_Cat 140737488355328 x := wf_TableS hB x h
abbrev K_Row : Kd := K_ValS
theorem wf_Row {B : Kd → Nat} (hB : ∀ g, 1 ≤ B g) (x : T_Row) (h : Wf B K_Row x) : sm_Row 140737488355328 x := wf_ValS hB x h
abbrev K_RowS : Kd := .sl K_Row
theorem wf_RowS {B : Kd → Nat} (hB : ∀ g, 1 ≤ B g) (x : T_RowS) (h : Wf B K_RowS x) : sm_RowS 140737488355328 x := ⟨wf_len (hB _) h.1, fun y hy => wf_Row hB y (h.2 y hy)⟩
abbrev K_Rows : Kd := K_RowS
theorem wf_Rows {B : Kd → Nat} (hB : ∀ g, 1 ≤ B g) (x : T_Rows) (h : Wf B K_Rows x) : sm_Rows 140737488355328 x := wf_RowS hB x h
abbrev K_RowsS : Kd := .sl K_Rows
theorem wf_RowsS {B : Kd → Nat} (hB : ∀ g, 1 ≤ B g) (x : T_RowsS) (h : Wf B K_RowsS x) : sm_RowsS 140737488355328 x := ⟨wf_len (hB _) h.1, fun y hy => wf_Rows hB y (h.2 y hy)⟩
abbrev K_Db : Kd := .pair K_Cat (K_RowsS)
theorem wf_Db {B : Kd → Nat} (hB : ∀ g, 1 ≤ B g) (x : T_Db) (h : Wf B K_Db x) : sm_Db 140737488355328 x := ⟨wf_Cat hB x.1 h.1, wf_RowsS hB x.2 h.2⟩
abbrev K_Ddl : Kd := .pair (.int .i64) (.pair .str (.pair K_ColS (.pair K_StringS (.pair .str (.str)))))
theorem wf_Ddl {B : Kd → Nat} (hB : ∀ g, 1 ≤ B g) (x : T_Ddl) (h : Wf B K_Ddl x) : sm_Ddl 140737488355328 x := ⟨wf_str h.2.1, wf_ColS hB x.2.2.1 h.2.2.1, wf_StringS hB x.2.2.2.1 h.2.2.2.1, wf_str h.2.2.2.2.1, wf_str h.2.2.2.2.2⟩
abbrev K_Stmt : Kd := .pair (.int .i64) (.pair .str (.pair K_ValS (.pair K_Row (K_Ddl))))
theorem wf_Stmt {B : Kd → Nat} (hB : ∀ g, 1 ≤ B g) (x : T_Stmt) (h : Wf B K_Stmt x) : sm_Stmt 140737488355328 x := ⟨wf_str h.2.1, wf_ValS hB x.2.2.1 h.2.2.1, wf_Row hB x.2.2.2.1 h.2.2.2.1, wf_Ddl hB x.2.2.2.2 h.2.2.2.2⟩
abbrev K_StmtS : Kd := .sl K_Stmt
theorem wf_StmtS {B : Kd → Nat} (hB : ∀ g, 1 ≤ B g) (x : T_StmtS) (h : Wf B K_StmtS x) : sm_StmtS 140737488355328 x := ⟨wf_len (hB _) h.1, fun y hy => wf_Stmt hB y (h.2 y hy)⟩
abbrev E0 : ByteArray := ⟨#[]⟩
theorem within_ok : EV fun n => ∀ a b c, impl_within n a b c = some (decide (b ≤ a ∧ a ≤ c)) := EV.true.up fun n _ a b c => by
 simp only [impl_within]
 by_cases h : b ≤ a <;> simp [h]
theorem l01Num_ok : EV fun n => ∀ a, spec_l01Num n a = some (decide (-1099511627775 ≤ a ∧ a ≤ 1099511627775)) := EV.true.up fun n _ a => by
 simp only [spec_l01Num]
 by_cases h : -1099511627775 ≤ a <;> simp [h]
def lower (b : UInt8) : Bool := decide (97 ≤ b.toNat ∧ b.toNat ≤ 122)
def cWordOk (s : ByteArray) : Bool := s.data.toList.all lower && decide (1 ≤ s.size ∧ s.size ≤ 8)
theorem spec_WordOk_ok : EV fun n => ∀ s : ByteArray, s.size ≤ 1048576 → spec_WordOk n s = some (cWordOk s) := (EV.gt 1048576).up fun n h s hs => by
 rw [spec_WordOk]
 refine (alongT s (fun j k (_ : Unit) => spec_WordOk_L1 n j s (k : Int)) (fun t _ => some (t.all lower && decide (1 ≤ s.size ∧ s.size ≤ 8))) (fun j _ => ?_) (fun j k x t _ hd hk hb ih => ?_) (by omega) ())
 ·simp only [spec_WordOk_L1, lt_cast, zP, zH, zA, List.all_nil, zG1]
  by_cases h1 : (1 : Int) ≤ (s.size : Int)
  ·simp only [zD h1, zB]; congr 1; exact decide_eq_decide.mpr (by omega)
  ·simp only [zK h1, zA]; congr 1; exact (zK (by omega)).symm
 ·simp only [spec_WordOk_L1, lt_cast, zD hk, inR_true hk, zB, hb, wrap_succ hk (by omega), List.all_cons]
  have := ih ()
  rw [this]
  by_cases h1 : (x.toNat : Int) < 97
  ·have : lower x = false := zK (by omega)
   simp only [zD h1, zB, this, Bool.false_and]
  ·by_cases h2 : (122 : Int) < (x.toNat : Int)
   ·have : lower x = false := zK (by omega)
    simp only [zD h2, zK h1, zB, zA, this, Bool.false_and]
   ·have : lower x = true := zD (by omega)
    simp only [zK h2, zK h1, zA, this, zG1]
theorem impl_WordOk_ok : EV fun n => ∀ s : ByteArray, s.size ≤ 1048576 → impl_WordOk n s = some (cWordOk s) := (within_ok.and (EV.gt 1048576)).up fun n ⟨hw, h⟩ s hs => by
 rw [impl_WordOk]
 refine (alongT s (fun j k (_ : Unit) => impl_WordOk_L1 n j s (k : Int)) (fun t _ => some (t.all lower && decide (1 ≤ s.size ∧ s.size ≤ 8))) (fun j _ => ?_) (fun j k x t _ hd hk hb ih => ?_) (by omega) ())
 ·simp only [impl_WordOk_L1, lt_cast, zP, zH, zA, List.all_nil, zG1, hw, zC]
  congr 1; exact decide_eq_decide.mpr (by omega)
 ·simp only [impl_WordOk_L1, lt_cast, zD hk, inR_true hk, zB, hb, wrap_succ hk (by omega), List.all_cons]
  have := ih ()
  rw [this]
  by_cases h1 : (x.toNat : Int) < 97
  ·have : lower x = false := zK (by omega)
   simp only [zD h1, zB, this, Bool.false_and]
  ·by_cases h2 : (122 : Int) < (x.toNat : Int)
   ·have : lower x = false := zK (by omega)
    simp only [zD h2, zK h1, zB, zA, this, Bool.false_and]
   ·have : lower x = true := zD (by omega)
    simp only [zK h2, zK h1, zA, this, zG1]
def cValOk (a b : Int) (s : ByteArray) : Bool :=
 if a = 0 then decide (b = 0) && decide (s = E0) else if a = 1 then decide (b = 0 ∨ b = 1) && decide (s = E0) else
 if a = 2 then decide (-1099511627775 ≤ b ∧ b ≤ 1099511627775) && decide (s = E0) else if a = 3 then decide (b = 0) && decide (s.size ≤ 30) else false
theorem spec_ValOk_ok : EV fun n => ∀ a b s, spec_ValOk n a b s = some (cValOk a b s) := l01Num_ok.up fun n h a b s => by
 have hz : decide ((s.size : Int) ≤ 30) = decide (s.size ≤ 30) := decide_eq_decide.mpr (by omega)
 simp only [spec_ValOk, h, text_eq, zC, int_beq, hz]
 generalize he : decide (s = E0) = e
 have he' : decide (s = ⟨#[]⟩) = e := he
 simp only [cValOk, he, he']
 by_cases h0 : a = 0
 ·subst h0; by_cases hb : b = 0 <;> simp [hb]
 ·by_cases h1 : a = 1
  ·subst h1; by_cases hb : b = 0
   ·simp [hb]
   ·by_cases hb1 : b = 1 <;> simp [hb, hb1]
  ·by_cases h2 : a = 2
   ·subst h2; by_cases hb : -1099511627775 ≤ b ∧ b ≤ 1099511627775 <;> simp [hb]
   ·by_cases h3 : a = 3
    ·subst h3; by_cases hb : b = 0 <;> simp [hb]
    ·simp [h0, h1, h2, h3]
theorem impl_ValOk_ok : EV fun n => ∀ a b s, impl_ValOk n a b s = some (cValOk a b s) := within_ok.up fun n h a b s => by
 have hz : decide ((s.size : Int) ≤ 30) = decide (s.size ≤ 30) := decide_eq_decide.mpr (by omega)
 simp only [impl_ValOk, h, text_eq, zC, int_beq, hz]
 generalize he : decide (s = E0) = e
 have he' : decide (s = ⟨#[]⟩) = e := he
 simp only [cValOk, he, he']
 by_cases h0 : a = 0
 ·subst h0; by_cases hb : b = 0 <;> simp [hb]
 ·by_cases h1 : a = 1
  ·subst h1; by_cases hb : b = 0
   ·simp [hb]
   ·by_cases hb1 : b = 1
    ·simp [hb, hb1]
    ·have : ¬ (0 ≤ b ∧ b ≤ 1) := by omega
     simp [hb, hb1, this]
  ·by_cases h2 : a = 2
   ·subst h2; by_cases hb : -1099511627775 ≤ b ∧ b ≤ 1099511627775 <;> simp [hb]
   ·by_cases h3 : a = 3
    ·subst h3; by_cases hb : b = 0 <;> simp [hb]
    ·simp [h0, h1, h2, h3]
def cValLess (x y : T_Val) : Bool :=
 cValOk x.1 x.2.1 x.2.2 && cValOk y.1 y.2.1 y.2.2 && (if x.1 = y.1 then (if x.2.1 = y.2.1 then Op.bytesLess x.2.2.toList y.2.2.toList else decide (x.2.1 < y.2.1)) else decide (x.1 < y.1))
theorem spec_ValLess_ok : EV fun n => ∀ x y : T_Val, spec_ValLess n x.1 x.2.1 x.2.2 y.1 y.2.1 y.2.2 = some (cValLess x y) := spec_ValOk_ok.up fun n h x y => by
 obtain ⟨a, b, s⟩ := x; obtain ⟨c, d, t⟩ := y
 simp only [spec_ValLess, h, zC, cValLess, int_beq, int_bne]
 cases cValOk a b s <;> cases cValOk c d t <;> simp
 by_cases h1 : a = c
 ·by_cases h2 : b = d
  ·simp [h1, h2]
  ·by_cases h3 : b < d <;> simp [h1, h2, h3]
 ·simp [h1]
theorem impl_ValLess_ok : EV fun n => ∀ x y : T_Val, impl_ValLess n x.1 x.2.1 x.2.2 y.1 y.2.1 y.2.2 = some (cValLess x y) := impl_ValOk_ok.up fun n h x y => by
 obtain ⟨a, b, s⟩ := x; obtain ⟨c, d, t⟩ := y
 simp only [impl_ValLess, h, zC, cValLess, int_beq, int_bne]
 cases cValOk a b s <;> cases cValOk c d t <;> simp
 by_cases h1 : a = c
 ·by_cases h2 : b = d
  ·simp [h1, h2]
  ·by_cases h3 : b < d <;> simp [h1, h2, h3]
 ·simp [h1]
def null : T_Val := (0, 0, E0)
def cColOk (x : T_Col) : Bool :=
 cWordOk x.1 && decide (1 ≤ x.2.1 ∧ x.2.1 ≤ 3) && (if x.2.2.2.1 then cValOk x.2.2.2.2.1 x.2.2.2.2.2.1 x.2.2.2.2.2.2 && (decide (x.2.2.2.2.1 = x.2.1) || decide (x.2.2.2.2.1 = 0) && !x.2.2.1) else decide (x.2.2.2.2 = null))
theorem null_eq (a b : Int) (s : ByteArray) : ((a == (0 : Int)) && ((b == (0 : Int)) && (decide (s = E0) && true))) = decide ((a, b, s) = null) := by
 by_cases h1 : a = 0 <;> by_cases h2 : b = 0 <;> by_cases h3 : s = E0 <;> simp [null, h1, h2, h3]
theorem spec_ColOk_ok : EV fun n => ∀ x : T_Col, sm_Col 1048576 x → spec_ColOk n x.1 x.2.1 x.2.2.1 x.2.2.2.1 x.2.2.2.2.1 x.2.2.2.2.2.1 x.2.2.2.2.2.2 = some (cColOk x) := (spec_WordOk_ok.and spec_ValOk_ok).up fun n ⟨h1, h2⟩ x hs => by
 obtain ⟨a, t, nt, hs', v⟩ := x
 obtain ⟨b, c, s⟩ := v
 have hw := h1 a hs.1
 simp only [spec_ColOk, hw, h2, zC, text_eq, null_eq, cColOk]
 cases cWordOk a
 ·simp
 by_cases c1 : t < 1
 ·simp [c1]; omega
 by_cases c2 : 3 < t
 ·simp [c1, c2]; omega
 have c3 : 1 ≤ t ∧ t ≤ 3 := by omega
 simp only [zT, zA, zK c1, zK c2, zD c3, zG1]
 cases hs' <;> simp
 cases hv : cValOk b c s
 ·simp
 by_cases hn : (b, c, s) = null
 ·have h0 : ¬ (0 : Int) = t := by omega
  simp only [null, zR] at hn; obtain ⟨rfl, rfl, rfl⟩ := hn
  cases nt <;> simp [null, h0]
 ·by_cases hbt : b = t
  ·subst hbt; cases nt <;> simp [hn, int_beq]
  ·by_cases hb : b = 0
   ·exfalso
    subst hb
    simp [cValOk] at hv
    exact hn (by simp [null, hv])
   ·cases nt <;> simp [hn, hbt, hb, int_beq]
theorem impl_ColOk_ok : EV fun n => ∀ x : T_Col, sm_Col 1048576 x → impl_ColOk n x.1 x.2.1 x.2.2.1 x.2.2.2.1 x.2.2.2.2.1 x.2.2.2.2.2.1 x.2.2.2.2.2.2 = some (cColOk x) := (impl_WordOk_ok.and (impl_ValOk_ok.and within_ok)).up fun n ⟨h1, h2, h3⟩ x hs => by
 obtain ⟨a, t, nt, hs', v⟩ := x
 obtain ⟨b, c, s⟩ := v
 have hw := h1 a hs.1
 simp only [impl_ColOk, hw, h2, h3, zC, text_eq, null_eq, cColOk]
 cases cWordOk a
 ·simp
 by_cases c3 : 1 ≤ t ∧ t ≤ 3
 ·simp only [zT, zA, zD c3, zG1]
  cases hs'
  ·by_cases hn : (b, c, s) = null
   ·have : cValOk b c s = true := by
     simp [null] at hn; obtain ⟨rfl, rfl, rfl⟩ := hn; rfl
    simp [hn, this]
   ·cases cValOk b c s <;> simp [hn]
  ·cases cValOk b c s <;> simp
   by_cases hbt : b = t
   ·simp [hbt, int_beq]
   ·by_cases hb : b = 0
    ·subst hb; cases nt <;> simp [hbt, int_beq]
    ·simp [hbt, hb, int_beq]
 ·simp [zK c3]
theorem val_eq (x y : T_Val) : ((x.1 == y.1) && ((x.2.1 == y.2.1) && ((x.2.2.toList == y.2.2.toList) && true))) = decide (x = y) := by
 obtain ⟨a, b, s⟩ := x; obtain ⟨c, d, t⟩ := y
 simp only [text_eq, int_beq]
 by_cases h1 : a = c <;> by_cases h2 : b = d <;> by_cases h3 : s = t <;> simp [h1, h2, h3]
def cKeyLess : List T_Val → List T_Val → Bool
 | [], [] => false
 | [], _ :: _ => true
 | _ :: _, [] => false
 | x :: s, y :: t => if x = y then cKeyLess s t else cValLess x y
theorem spec_KeyLess_ok : EV fun n => ∀ x y : T_ValS, x.length ≤ 1048576 → spec_KeyLess n x y = some (cKeyLess x y) := (spec_ValLess_ok.and (EV.gt 1048576)).up fun n ⟨h, hn⟩ x y hx => by
 rw [spec_KeyLess]
 have key : ∀ (s : T_ValS) (j k : Nat), x.drop k = s → k ≤ x.length → k ≤ y.length → s.length < j → spec_KeyLess_L1 n j x y (k : Int) = some (cKeyLess s (y.drop k)) := by
  intro s
  induction s with
  | nil =>
   intro j k hd hk hky hj
   obtain ⟨j, rfl⟩ : ∃ i, j = i + 1 := ⟨j - 1, by simp at hj; omega⟩
   have : k = x.length := by
    rcases zE1 k x.length with h' | h'
    ·rw [zC1 h'] at hd; cases hd
    ·omega
   subst this
   simp only [spec_KeyLess_L1, lt_cast, zP, zH, zA]
   cases hy : y.drop x.length with
   | nil =>
    have : y.length ≤ x.length := List.drop_eq_nil_iff.mp hy
    rw [zK (by omega)]; rfl
   | cons z t =>
    have : x.length < y.length := (drop_cons hy z).1
    rw [zD this]; rfl
  | cons a s ih =>
   intro j k hd hk hky hj
   obtain ⟨j, rfl⟩ : ∃ i, j = i + 1 := ⟨j - 1, by simp at hj; omega⟩
   obtain ⟨h1, h2, h3⟩ := drop_cons hd (0, 0, E0)
   simp only [spec_KeyLess_L1, lt_cast, zD h1, zB]
   cases hy : y.drop k with
   | nil =>
    have : y.length ≤ k := List.drop_eq_nil_iff.mp hy
    rw [zK (by omega), zA, zK (by omega)]; rfl
   | cons b t =>
    obtain ⟨g1, g2, g3⟩ := drop_cons hy (0, 0, E0)
    simp only [zD g1, zB, inR_true h1, inR_true g1, zE, wrap_succ h1 (by omega)]
    rw [show x.getD k (0, 0, ⟨#[]⟩) = a from h2, show y.getD k (0, 0, ⟨#[]⟩) = b from g2, val_eq, h, ih j (k + 1) h3 (by omega) (by omega) (by simp at hj; omega), g3]
    simp only [cKeyLess, bif_step, zC]
    by_cases e : a = b <;> simp [e]
 exact key x n 0 rfl (by omega) (by omega) (by omega)
theorem impl_KeyLess_L1_eq {n : Nat} (h : ∀ x y : T_Val, impl_ValLess n x.1 x.2.1 x.2.2 y.1 y.2.1 y.2.2 = spec_ValLess n x.1 x.2.1 x.2.2 y.1 y.2.1 y.2.2) : ∀ (j : Nat) (x y : T_ValS) (i : Int), impl_KeyLess_L1 n j x y i = spec_KeyLess_L1 n j x y i
 | 0, _, _, _ => rfl
 | j + 1, x, y, i => by simp only [impl_KeyLess_L1, spec_KeyLess_L1, h, impl_KeyLess_L1_eq h j]
theorem impl_KeyLess_ok : EV fun n => ∀ x y : T_ValS, x.length ≤ 1048576 → impl_KeyLess n x y = some (cKeyLess x y) := by
 obtain ⟨N, h⟩ := spec_KeyLess_ok.and (spec_ValLess_ok.and impl_ValLess_ok)
 refine ⟨N + 1, fun n hn x y hx => ?_⟩
 obtain ⟨m, rfl⟩ : ∃ m, n = m + 1 := ⟨n - 1, by omega⟩
 have h1 := (h (m + 1) (by omega)).1 x y hx
 have h2 := (h m (by omega)).2
 rw [spec_KeyLess] at h1
 rw [impl_KeyLess, impl_KeyLess_L1_eq (fun x y => by rw [h2.1, h2.2])]
 exact h1
theorem spec_l03SameVals_ok : EV fun n => ∀ x y : T_ValS, x.length ≤ 1048576 → spec_l03SameVals n x y = some (decide (x = y)) := (EV.gt 1048576).up fun n hn x y hx => by
 rw [spec_l03SameVals]
 by_cases hl : x.length = y.length
 ·have : ((x.length : Int) != (y.length : Int)) = false := by simp [hl]
  simp only [this, zA]
  refine (eq_loop x y hl (fun j k => spec_l03SameVals_L1 n j x y (x.length : Int) (k : Int)) (fun j => by simp only [spec_l03SameVals_L1, lt_cast, zP, zH, zA]) (fun j k hk hk2 => ?_) x n 0 rfl (by omega) (by omega)).trans (by simp)
  simp only [spec_l03SameVals_L1, lt_cast, zD hk, inR_true hk, inR_true hk2, zE, getD_at hk, getD_at hk2, zB, wrap_succ hk (by omega), val_eq]
  exact eq_step _ _ _
 ·have : ((x.length : Int) != (y.length : Int)) = true := by simp; omega
  simp only [this, zB]
  congr 1; exact (zK fun h => hl (by rw [h])).symm
theorem slices_EqualVal_ok : EV fun n => ∀ x y : T_ValS, x.length ≤ 1048576 → slices_Equal_impl_Val_impl_Val n x y = some (decide (x = y)) := (EV.gt 1048576).up fun n hn x y hx => by
 rw [slices_Equal_impl_Val_impl_Val]
 by_cases hl : x.length = y.length
 ·have : ((x.length : Int) != (y.length : Int)) = false := by simp [hl]
  simp only [this, zA]
  refine (eq_loop x y hl (fun j k => slices_Equal_impl_Val_impl_Val_L1 n j x y (x.length : Int) (k : Int)) (fun j => by simp only [slices_Equal_impl_Val_impl_Val_L1, lt_cast, zP, zH, zA]) (fun j k hk hk2 => ?_) x n 0 rfl (by omega) (by omega)).trans (by simp)
  simp only [slices_Equal_impl_Val_impl_Val_L1, lt_cast, zD hk, inR_true hk, inR_true hk2, zE, getD_at hk, getD_at hk2, zB, wrap_succ hk (by omega), val_eq]
  exact eq_step _ _ _
 ·have : ((x.length : Int) != (y.length : Int)) = true := by simp; omega
  simp only [this, zB]
  congr 1; exact (zK fun h => hl (by rw [h])).symm
def cColAt (cs : T_ColS) (name : ByteArray) : Int := idx (fun c => decide (c.1 = name)) cs
theorem spec_ColAt_ok : EV fun n => ∀ (a : ByteArray) (cs : T_ColS) (ks : T_StringS) (s : ByteArray), cs.length ≤ 1048576 → spec_ColAt n a cs ks s = some (cColAt cs s) := (EV.gt 1048576).up fun n hn a cs ks s hl => by
 rw [spec_ColAt]
 refine find_loop (fun c => decide (c.1 = s)) cs (fun j k => spec_ColAt_L1 n j s cs (cs.length : Int) (k : Int)) (fun j => by simp only [spec_ColAt_L1, lt_cast, zP, zH, zA]) (fun j k hk => ?_) cs n 0 rfl (by omega) (by omega)
 simp only [spec_ColAt_L1, lt_cast, zD hk, inR_true hk, zE, getD_at hk, zB, wrap_succ hk (by omega), text_eq]
 exact bif_step' _ _
theorem impl_ColAt_ok : EV fun n => ∀ (a : ByteArray) (cs : T_ColS) (ks : T_StringS) (s : ByteArray), cs.length ≤ 1048576 → impl_ColAt n a cs ks s = some (idx (fun c => decide (c.1 = s)) cs) :=
 ((EV.true.up (q := fun n => ∀ (x : T_Col) (s : ByteArray), impl_ColAt_1 n x.1 x.2.1 x.2.2.1 x.2.2.2.1 x.2.2.2.2.1 x.2.2.2.2.2.1 x.2.2.2.2.2.2 s = some (decide (x.1 = s))) fun n h x s => by simp only [impl_ColAt_1, text_eq]).and (EV.gt 1048576)).up
  (q := fun n => ∀ (cs : T_ColS) (s : ByteArray), cs.length ≤ 1048576 → slices_IndexFunc_impl_Col_impl_Col__impl_ColAt_1 n cs s = some (idx (fun c => decide (c.1 = s)) cs)) (fun n ⟨h, hn⟩ cs s hl => by
  rw [slices_IndexFunc_impl_Col_impl_Col__impl_ColAt_1]
  refine find_loop (fun c => decide (c.1 = s)) cs (fun j k => slices_IndexFunc_impl_Col_impl_Col__impl_ColAt_1_L1 n j cs s (cs.length : Int) (k : Int)) (fun j => by simp only [slices_IndexFunc_impl_Col_impl_Col__impl_ColAt_1_L1, lt_cast, zP, zH, zA]) (fun j k hk => ?_) cs n 0 rfl (by omega) (by omega)
  simp only [slices_IndexFunc_impl_Col_impl_Col__impl_ColAt_1_L1, lt_cast, zD hk, inR_true hk, zE, getD_at hk, zB, wrap_succ hk (by omega), h, zC]
  exact bif_step' _ _) |>.up fun n h a cs ks s hl => by simp only [impl_ColAt, h cs s hl, zC]
def keyStep (cs : T_ColS) (key : ByteArray) (last : Int) : Option Int := if last < cColAt cs key ∧ (cs.getD (cColAt cs key).toNat (E0, (0, (false, (false, null))))).2.2.1 = true then some (cColAt cs key) else none
def cTableOk (x : T_Table) : Bool :=
 cWordOk x.1 && decide (1 ≤ x.2.1.length ∧ x.2.1.length ≤ 8) && decide (1 ≤ x.2.2.length) && allFrom (fun c k => cColOk c && decide (cColAt x.2.1 c.1 = (k : Int))) x.2.1 0 && (runs (keyStep x.2.1) x.2.2 (-1)).isSome
theorem spec_TableOk_ok : EV fun n => ∀ x : T_Table, sm_Table 1048576 x → spec_TableOk n x.1 x.2.1 x.2.2 = some (cTableOk x) := (spec_WordOk_ok.and (spec_ColOk_ok.and (spec_ColAt_ok.and (EV.gt 1048576)))).up fun n ⟨h1, h2, h3, hn⟩ x hs => by
 obtain ⟨a, cs, ks⟩ := x
 obtain ⟨s1, s2, s3⟩ := hs
 have s1 : a.size ≤ 1048576 := s1
 have s2l : cs.length ≤ 1048576 := s2.1
 have s3l : ks.length ≤ 1048576 := s3.1
 have hL2 : spec_TableOk_L2 n n (-1) ks (ks.length : Int) 0 a cs ks = after (runs (keyStep cs) ks (-1)) (some false) fun _ => some true := by
  refine run_loop ks (keyStep cs) (fun j k s => spec_TableOk_L2 n j s ks (ks.length : Int) (k : Int) a cs ks) (fun _ => some true) (some false) (fun s => -1 ≤ s) (fun x hx s s' h h' => ?_) (fun j s _ => by simp only [spec_TableOk_L2, lt_cast, zP, zH, zA]) (fun j k s hk hs => ?_) ks n 0 (-1) rfl (by omega) (by omega) (by decide)
  ·simp only [keyStep] at h'; split at h'
   ·obtain rfl := oI h'; exact (idx_lt _ _).1
   ·cases h'
  ·simp only [spec_TableOk_L2, lt_cast, zD hk, inR_true hk, zE, getD_at hk, zB, wrap_succ hk (by omega), h3 _ _ _ _ s2l, zC, keyStep]
   obtain ⟨i1, i2⟩ : -1 ≤ cColAt cs ks[k] ∧ cColAt cs ks[k] < (cs.length : Int) := idx_lt _ _
   by_cases hc : cColAt cs ks[k] ≤ s
   ·rw [zD hc, if_neg (by omega)]; rfl
   ·have : inR (cColAt cs ks[k]) cs.length = true := by simp only [inR]; exact zD (by omega)
    rw [zK hc, this]
    simp only [zA, zB]
    cases hb : (cs.getD (cColAt cs ks[k]).toNat (E0, (0, (false, (false, null))))).2.2.1
    ·rw [show (cs.getD (cColAt cs ks[k]).toNat (⟨#[]⟩, (0, (false, (false, (0, (0, ⟨#[]⟩))))))).2.2.1 = false from hb]; simp [after]
    ·rw [show (cs.getD (cColAt cs ks[k]).toNat (⟨#[]⟩, (0, (false, (false, (0, (0, ⟨#[]⟩))))))).2.2.1 = true from hb, if_pos ⟨by omega, rfl⟩]; rfl
 have hL1 : spec_TableOk_L1 n n cs (cs.length : Int) 0 a cs ks = if allFrom (fun c k => cColOk c && decide (cColAt cs c.1 = (k : Int))) cs 0 = true then (after (runs (keyStep cs) ks (-1)) (some false) fun _ => some true) else some false := by
  refine allFrom_loop _ cs (fun j k => spec_TableOk_L1 n j cs (cs.length : Int) (k : Int) a cs ks) _ (fun j => by simp only [spec_TableOk_L1, lt_cast, zP, zH, zA, hL2]) (fun j k hk => ?_) cs n 0 rfl (by omega) (by omega)
  simp only [spec_TableOk_L1, lt_cast, zD hk, inR_true hk, zE, getD_at hk, zB, wrap_succ hk (by omega), h3 _ _ _ _ s2l, zC, h2 cs[k] (s2.2 _ (zL hk)), int_bne]
  by_cases e : cColAt cs cs[k].1 = (k : Int) <;> cases cColOk cs[k] <;> simp [e]
 simp only [spec_TableOk, h1 a s1, zC, hL1, cTableOk]
 cases cWordOk a
 ·simp
 by_cases c1 : (cs.length : Int) < 1
 ·rw [zD c1, zK (show ¬ (1 ≤ cs.length ∧ cs.length ≤ 8) by omega)]; simp
 by_cases c2 : (8 : Int) < (cs.length : Int)
 ·rw [zK c1, zD c2, zK (show ¬ (1 ≤ cs.length ∧ cs.length ≤ 8) by omega)]; simp
 rw [zK c1, zK c2, zD (show (1 ≤ cs.length ∧ cs.length ≤ 8) by omega)]
 by_cases c3 : (ks.length : Int) < 1
 ·rw [zD c3, zK (show ¬ 1 ≤ ks.length by omega)]; simp
 rw [zK c3, zD (show 1 ≤ ks.length by omega)]
 simp only [zT, zA, zG1]
 cases allFrom (fun c k => cColOk c && decide (cColAt cs c.1 = (k : Int))) cs 0
 ·simp
 ·cases runs (keyStep cs) ks (-1) <;> simp [after]
theorem impl_TableOk_ok : EV fun n => ∀ x : T_Table, sm_Table 1048576 x → impl_TableOk n x.1 x.2.1 x.2.2 = some (cTableOk x) := (impl_WordOk_ok.and (impl_ColOk_ok.and (impl_ColAt_ok.and (within_ok.and (EV.gt 1048576))))).up fun n ⟨h1, h2, h3, h4, hn⟩ x hs => by
 obtain ⟨a, cs, ks⟩ := x
 obtain ⟨s1, s2, s3⟩ := hs
 have s1 : a.size ≤ 1048576 := s1
 have s2l : cs.length ≤ 1048576 := s2.1
 have s3l : ks.length ≤ 1048576 := s3.1
 have h3 : ∀ s, impl_ColAt n a cs ks s = some (cColAt cs s) := fun s => h3 _ _ _ _ s2l
 have hL2 : impl_TableOk_L2 n n (-1) ks (ks.length : Int) 0 a cs ks = after (runs (keyStep cs) ks (-1)) (some false) fun _ => some (cWordOk a && decide (1 ≤ cs.length ∧ cs.length ≤ 8) && decide (1 ≤ ks.length)) := by
  refine run_loop ks (keyStep cs) (fun j k s => impl_TableOk_L2 n j s ks (ks.length : Int) (k : Int) a cs ks) (fun _ => some (cWordOk a && decide (1 ≤ cs.length ∧ cs.length ≤ 8) && decide (1 ≤ ks.length))) (some false) (fun s => -1 ≤ s) (fun x hx s s' h h' => ?_) (fun j s _ => ?_) (fun j k s hk hs => ?_) ks n 0 (-1) rfl (by omega) (by omega) (by decide)
  ·simp only [keyStep] at h'; split at h'
   ·obtain rfl := oI h'; exact (idx_lt _ _).1
   ·cases h'
  ·simp only [impl_TableOk_L2, lt_cast, zP, zH, zA, h1 a s1, h4, zC]
   rw [show decide ((1 : Int) ≤ (cs.length : Int) ∧ (cs.length : Int) ≤ 8) = decide (1 ≤ cs.length ∧ cs.length ≤ 8) from decide_eq_decide.mpr (by omega), show decide ((0 : Int) < (ks.length : Int)) = decide (1 ≤ ks.length) from decide_eq_decide.mpr (by omega)]
   cases cWordOk a <;> cases decide (1 ≤ cs.length ∧ cs.length ≤ 8) <;> simp
  ·simp only [impl_TableOk_L2, lt_cast, zD hk, inR_true hk, zE, getD_at hk, zB, wrap_succ hk (by omega), h3, zC, keyStep]
   obtain ⟨i1, i2⟩ : -1 ≤ cColAt cs ks[k] ∧ cColAt cs ks[k] < (cs.length : Int) := idx_lt _ _
   by_cases hc : cColAt cs ks[k] ≤ s
   ·rw [zD hc, if_neg (by omega)]; rfl
   ·have : inR (cColAt cs ks[k]) cs.length = true := by simp only [inR]; exact zD (by omega)
    rw [zK hc, this]
    simp only [zA, zB]
    cases hb : (cs.getD (cColAt cs ks[k]).toNat (E0, (0, (false, (false, null))))).2.2.1
    ·rw [show (cs.getD (cColAt cs ks[k]).toNat (⟨#[]⟩, (0, (false, (false, (0, (0, ⟨#[]⟩))))))).2.2.1 = false from hb]; simp [after]
    ·rw [show (cs.getD (cColAt cs ks[k]).toNat (⟨#[]⟩, (0, (false, (false, (0, (0, ⟨#[]⟩))))))).2.2.1 = true from hb, if_pos ⟨by omega, rfl⟩]; rfl
 simp only [impl_TableOk]
 refine (allFrom_loop (fun c k => cColOk c && decide (cColAt cs c.1 = (k : Int))) cs (fun j k => impl_TableOk_L1 n j cs (cs.length : Int) (k : Int) a cs ks) _ (fun j => by simp only [impl_TableOk_L1, lt_cast, zP, zH, zA]; exact hL2) (fun j k hk => ?_) cs n 0 rfl (by omega) (by omega)).trans ?_
 ·simp only [impl_TableOk_L1, lt_cast, zD hk, inR_true hk, zE, getD_at hk, zB, wrap_succ hk (by omega), h3, zC, h2 cs[k] (s2.2 _ (zL hk)), int_bne]
  by_cases e : cColAt cs cs[k].1 = (k : Int) <;> cases cColOk cs[k] <;> simp [e]
 ·simp only [cTableOk]
  cases allFrom (fun c k => cColOk c && decide (cColAt cs c.1 = (k : Int))) cs 0
  ·simp
  ·cases runs (keyStep cs) ks (-1) <;> simp [after]
def cCatStep (l : T_TableS) (t : T_Table) (k : Nat) : Bool := cTableOk t && (decide (k = 0) || Op.bytesLess (l.getD (k - 1) (E0, ([], []))).1.toList t.1.toList)
def cCatOk (l : T_TableS) : Bool := decide (l.length ≤ 6) && allFrom (cCatStep l) l 0
theorem pred_cast {k : Nat} (h : 0 < k) (h2 : k ≤ 1048576) : IntKind.wrap .i64 ((k : Int) - (1 : Int)) = ((k - 1 : Nat) : Int) := by rw [wrap64] <;> omega
theorem spec_CatOk_ok : EV fun n => ∀ l : T_TableS, sm_TableS 1048576 l → spec_CatOk n l = some (cCatOk l) := (spec_TableOk_ok.and (EV.gt 1048576)).up fun n ⟨h, hn⟩ l hs => by
 have hl := hs.1
 have key : spec_CatOk_L1 n n l (l.length : Int) 0 l = if allFrom (cCatStep l) l 0 = true then some true else some false := by
  refine allFrom_loop (cCatStep l) l (fun j k => spec_CatOk_L1 n j l (l.length : Int) (k : Int) l) _ (fun j => by simp only [spec_CatOk_L1, lt_cast, zP, zH, zA]) (fun j k hk => ?_) l n 0 rfl (by omega) (by omega)
  simp only [spec_CatOk_L1, lt_cast, zD hk, inR_true hk, zE, getD_at hk, zB, wrap_succ hk (by omega), h l[k] (hs.2 _ (zL hk)), zC]
  by_cases ht : cTableOk l[k] = true
  ·by_cases h0 : k = 0
   ·subst h0
    have : cCatStep l l[0] 0 = true := by simp [cCatStep, ht]
    simp [ht, this]
   ·have e : cCatStep l l[k] k = Op.bytesLess (l.getD (k - 1) (E0, ([], []))).1.toList l[k].1.toList := by simp [cCatStep, ht, h0]
    rw [zD (show (0 : Int) < (k : Int) by omega), pred_cast (by omega) (by omega), inR_true (show k - 1 < l.length by omega), zE, ht, e]
    simp only [zB, zT, zA]
    exact bif_step _ _
  ·have : cCatStep l l[k] k = false := by simp [cCatStep, ht]
   simp [ht, this]
 simp only [spec_CatOk, cCatOk, key]
 by_cases c : (6 : Int) < (l.length : Int)
 ·rw [zD c, zK (show ¬ l.length ≤ 6 by omega)]; rfl
 ·rw [zK c, zD (show l.length ≤ 6 by omega)]
  cases allFrom (cCatStep l) l 0 <;> rfl
theorem impl_CatOk_ok : EV fun n => ∀ l : T_TableS, sm_TableS 1048576 l → impl_CatOk n l = some (cCatOk l) := (impl_TableOk_ok.and (EV.gt 1048576)).up fun n ⟨h, hn⟩ l hs => by
 have hl := hs.1
 simp only [impl_CatOk]
 refine (allFrom_loop (cCatStep l) l (fun j k => impl_CatOk_L1 n j l (l.length : Int) (k : Int) l) (some (decide ((l.length : Int) ≤ 6))) (fun j => by simp only [impl_CatOk_L1, lt_cast, zP, zH, zA]) (fun j k hk => ?_) l n 0 rfl (by omega) (by omega)).trans ?_
 ·simp only [impl_CatOk_L1, lt_cast, zD hk, inR_true hk, zE, getD_at hk, zB, wrap_succ hk (by omega), h l[k] (hs.2 _ (zL hk)), zC]
  by_cases ht : cTableOk l[k] = true
  ·by_cases h0 : k = 0
   ·subst h0
    have : cCatStep l l[0] 0 = true := by simp [cCatStep, ht]
    simp [ht, this]
   ·have e : cCatStep l l[k] k = Op.bytesLess (l.getD (k - 1) (E0, ([], []))).1.toList l[k].1.toList := by simp [cCatStep, ht, h0]
    rw [zD (show (0 : Int) < (k : Int) by omega), pred_cast (by omega) (by omega), inR_true (show k - 1 < l.length by omega), zE, ht, e]
    simp only [zB, zT, zA]
    exact bif_step _ _
  ·have : cCatStep l l[k] k = false := by simp [cCatStep, ht]
   simp [ht, this]
 ·simp only [cCatOk]
  rw [show decide ((l.length : Int) ≤ 6) = decide (l.length ≤ 6) from decide_eq_decide.mpr (by omega)]
  cases allFrom (cCatStep l) l 0 <;> simp
theorem col_eq (x y : T_Col) : ((x.1.toList == y.1.toList) && ((x.2.1 == y.2.1) && ((x.2.2.1 == y.2.2.1) && ((x.2.2.2.1 == y.2.2.2.1) && ((x.2.2.2.2.1 == y.2.2.2.2.1) && ((x.2.2.2.2.2.1 == y.2.2.2.2.2.1) && ((x.2.2.2.2.2.2.toList == y.2.2.2.2.2.2.toList) && true))))))) = decide (x = y) := by
 rw [val_eq x.2.2.2.2 y.2.2.2.2]
 obtain ⟨a, b, c, d, e⟩ := x; obtain ⟨a', b', c', d', e'⟩ := y
 simp only [text_eq, int_beq, Bool.beq_eq_decide_eq]
 by_cases h1 : a = a' <;> by_cases h2 : b = b' <;> by_cases h3 : c = c' <;> by_cases h4 : d = d' <;> by_cases h5 : e = e' <;> simp [h1, h2, h3, h4, h5, text_eq']
theorem slices_EqualCol_ok : EV fun n => ∀ x y : T_ColS, x.length ≤ 1048576 → slices_Equal_impl_Col_impl_Col n x y = some (decide (x = y)) := (EV.gt 1048576).up fun n hn x y hx => by
 rw [slices_Equal_impl_Col_impl_Col]
 by_cases hl : x.length = y.length
 ·have : ((x.length : Int) != (y.length : Int)) = false := by simp [hl]
  simp only [this, zA]
  refine (eq_loop x y hl (fun j k => slices_Equal_impl_Col_impl_Col_L1 n j x y (x.length : Int) (k : Int)) (fun j => by simp only [slices_Equal_impl_Col_impl_Col_L1, lt_cast, zP, zH, zA]) (fun j k hk hk2 => ?_) x n 0 rfl (by omega) (by omega)).trans (by simp)
  simp only [slices_Equal_impl_Col_impl_Col_L1, lt_cast, zD hk, inR_true hk, inR_true hk2, zE, getD_at hk, getD_at hk2, zB, wrap_succ hk (by omega), col_eq]
  exact eq_step _ _ _
 ·have : ((x.length : Int) != (y.length : Int)) = true := by simp; omega
  simp only [this, zB]
  congr 1; exact (zK fun h => hl (by rw [h])).symm
theorem slices_EqualStr_ok : EV fun n => ∀ x y : List ByteArray, x.length ≤ 1048576 → slices_Equal_string_string n x y = some (decide (x = y)) := (EV.gt 1048576).up fun n hn x y hx => by
 rw [slices_Equal_string_string]
 by_cases hl : x.length = y.length
 ·have : ((x.length : Int) != (y.length : Int)) = false := by simp [hl]
  simp only [this, zA]
  refine (eq_loop x y hl (fun j k => slices_Equal_string_string_L1 n j x y (x.length : Int) (k : Int)) (fun j => by simp only [slices_Equal_string_string_L1, lt_cast, zP, zH, zA]) (fun j k hk hk2 => ?_) x n 0 rfl (by omega) (by omega)).trans (by simp)
  simp only [slices_Equal_string_string_L1, lt_cast, zD hk, inR_true hk, inR_true hk2, zE, getD_at hk, getD_at hk2, zB, wrap_succ hk (by omega), text_eq]
  exact eq_step _ _ _
 ·have : ((x.length : Int) != (y.length : Int)) = true := by simp; omega
  simp only [this, zB]
  congr 1; exact (zK fun h => hl (by rw [h])).symm
def fitsS (c : T_Col) (v : T_Val) : Bool := cValOk v.1 v.2.1 v.2.2 && (if v.1 = 0 then !c.2.2.1 else decide (v.1 = c.2.1))
def CZ : T_Col := (E0, (0, (false, (false, null))))
def cRowIn (cs : T_ColS) (r : T_ValS) : Bool := decide (r.length = cs.length) && allFrom (fun c k => fitsS c (r.getD k null)) cs 0
def cKeyOf (cs : T_ColS) (ks : T_StringS) (r : T_ValS) : T_ValS := ks.map fun key => r.getD (cColAt cs key).toNat null
theorem runs_keys {cs : T_ColS} : ∀ {ks : T_StringS} {last : Int}, (runs (keyStep cs) ks last).isSome = true → -1 ≤ last → ∀ key ∈ ks, 0 ≤ cColAt cs key ∧ (cs.getD (cColAt cs key).toNat CZ).2.2.1 = true
 | [], _, _, _, key, h => by simp at h
 | x :: t, last, h, hl, key, hk => by
  simp only [runs, keyStep] at h
  split at h
  ·rename_i hc
   rcases List.mem_cons.mp hk with rfl | hk
   ·exact ⟨by omega, hc.2⟩
   ·exact runs_keys h (idx_lt _ _).1 key hk
  ·simp at h
theorem table_facts {x : T_Table} (h : cTableOk x = true) : (∀ key ∈ x.2.2, 0 ≤ cColAt x.2.1 key ∧ cColAt x.2.1 key < (x.2.1.length : Int) ∧ (x.2.1.getD (cColAt x.2.1 key).toNat CZ).2.2.1 = true) ∧ (∀ c ∈ x.2.1, cColOk c = true) ∧ x.2.1.length ≤ 8 ∧ 1 ≤ x.2.1.length := by
 simp only [cTableOk, zJ, zG] at h
 obtain ⟨⟨⟨⟨h1, h2⟩, h3⟩, h4⟩, h5⟩ := h
 refine ⟨fun key hk => ?_, fun c hc => ?_, h2.2, h2.1⟩
 ·obtain ⟨k1, k2⟩ := runs_keys h5 (by omega) key hk
  exact ⟨k1, (idx_lt _ _).2, k2⟩
 ·obtain ⟨i, hi, rfl⟩ := List.mem_iff_getElem.mp hc
  have := (allFrom_iff _ _ _).mp h4 i hi
  simp only [zJ] at this
  exact this.1
theorem col_ty {c : T_Col} (h : cColOk c = true) : 1 ≤ c.2.1 ∧ c.2.1 ≤ 3 := by
 simp only [cColOk, zJ, zG] at h
 exact h.1.2
theorem keyOf_len (cs : T_ColS) (ks : T_StringS) (r : T_ValS) : (cKeyOf cs ks r).length = ks.length := by simp [cKeyOf]
theorem getD_CZ {cs : T_ColS} {k : Nat} : cs.getD k (⟨#[]⟩, (0, (false, (false, (0, (0, ⟨#[]⟩)))))) = cs.getD k CZ := rfl
theorem getD_null {r : T_ValS} {k : Nat} : r.getD k (0, (0, ⟨#[]⟩)) = r.getD k null := rfl
theorem inR_int {i : Int} {n : Nat} (h1 : 0 ≤ i) (h2 : i < (n : Int)) : inR i n = true := by simp only [inR]; exact zD ⟨h1, h2⟩
theorem spec_l03Fits_ok : EV fun n => ∀ (c : T_Col) (v : T_Val), spec_l03Fits n c.1 c.2.1 c.2.2.1 c.2.2.2.1 c.2.2.2.2.1 c.2.2.2.2.2.1 c.2.2.2.2.2.2 v.1 v.2.1 v.2.2 = some (fitsS c v) := spec_ValOk_ok.up fun n h c v => by
 simp only [spec_l03Fits, h, zC, fitsS, int_beq]
 by_cases h0 : v.1 = 0 <;> cases cValOk v.1 v.2.1 v.2.2 <;> simp [h0]
theorem impl_stands_ok : EV fun n => ∀ (c : T_Col) (v : T_Val), c.2.1 ≠ 0 → impl_stands n c.1 c.2.1 c.2.2.1 c.2.2.2.1 c.2.2.2.2.1 c.2.2.2.2.2.1 c.2.2.2.2.2.2 v.1 v.2.1 v.2.2 = some (fitsS c v) := impl_ValOk_ok.up fun n h c v hc => by
 simp only [impl_stands, h, zC, fitsS, int_beq]
 cases cValOk v.1 v.2.1 v.2.2
 ·simp
 ·by_cases h0 : v.1 = 0
  ·have : ¬ (0 : Int) = c.2.1 := fun e => hc e.symm
   simp [h0, this]
  ·by_cases h1 : v.1 = c.2.1 <;> simp [h0, h1]
   exact .inl hc
theorem spec_RowOk_ok : EV fun n => ∀ (x : T_Table) (r : T_ValS), sm_Table 1048576 x → spec_RowOk n x.1 x.2.1 x.2.2 r = some (cTableOk x && cRowIn x.2.1 r) := (spec_TableOk_ok.and (spec_l03Fits_ok.and (EV.gt 1048576))).up fun n ⟨h1, h2, hn⟩ x r hs => by
 have lc := hs.2.1.1
 simp only [spec_RowOk, h1 x hs, zC, int_bne, cRowIn]
 cases cTableOk x
 ·simp
 by_cases hl : r.length = x.2.1.length
 ·have hl' : ((r.length : Int) = (x.2.1.length : Int)) = True := eq_true (by omega)
  simp only [zT, zA, hl', zI, hl, zG1]
  refine (allFrom_loop (fun c k => fitsS c (r.getD k null)) x.2.1 (fun j k => spec_RowOk_L1 n j x.2.1 (x.2.1.length : Int) (k : Int) r) (some true) (fun j => by simp only [spec_RowOk_L1, lt_cast, zP, zH, zA]) (fun j k hk => ?_) x.2.1 n 0 rfl (by omega) (by omega)).trans ?_
  ·have hk2 : k < r.length := by omega
   simp only [spec_RowOk_L1, lt_cast, zD hk, inR_true hk, inR_true hk2, zE, getD_at hk, zB, wrap_succ hk (by omega), h2, zC, getD_null]
   exact bif_step _ _
  ·cases allFrom (fun c k => fitsS c (r.getD k null)) x.2.1 0 <;> rfl
 ·have hl' : ¬ (r.length : Int) = (x.2.1.length : Int) := by omega
  simp [hl, hl']
theorem impl_rowOk_ok : EV fun n => ∀ (x : T_Table) (r : T_ValS), sm_Table 1048576 x → cTableOk x = true → impl_rowOk n x.1 x.2.1 x.2.2 r = some (cRowIn x.2.1 r) := (impl_stands_ok.and (EV.gt 1048576)).up fun n ⟨h2, hn⟩ x r hs ht => by
 have lc := hs.2.1.1
 obtain ⟨_, hcol, _⟩ := table_facts ht
 simp only [impl_rowOk, int_bne, cRowIn]
 by_cases hl : r.length = x.2.1.length
 ·have hl' : ((r.length : Int) = (x.2.1.length : Int)) = True := eq_true (by omega)
  simp only [zT, zA, hl', zI, hl, zG1]
  refine (allFrom_loop (fun v k => fitsS (x.2.1.getD k CZ) v) r (fun j k => impl_rowOk_L1 n j r (x.2.1.length : Int) (k : Int) x.1 x.2.1 x.2.2) (some true) (fun j => by rw [hl]; simp only [impl_rowOk_L1, lt_cast, zP, zH, zA]) (fun j k hk => ?_) r n 0 rfl (by omega) (by omega)).trans ?_
  ·have hk2 : k < x.2.1.length := by omega
   simp only [impl_rowOk_L1, lt_cast, zD hk2, inR_true hk, inR_true hk2, zE, getD_at hk, getD_at hk2, zB, wrap_succ hk (by omega)]
   rw [h2 x.2.1[k] r[k] (by have := col_ty (hcol _ (zL hk2)); omega)]
   exact bif_step _ _
  ·have : allFrom (fun v k => fitsS (x.2.1.getD k CZ) v) r 0 = allFrom (fun c k => fitsS c (r.getD k null)) x.2.1 0 := by
    rw [Bool.eq_iff_iff, allFrom_iff, allFrom_iff]
    constructor
    ·intro h i hi
     have := h i (by omega)
     rw [zS, getD_at hi] at this
     rw [zS, getD_at (show i < r.length by omega)]; exact this
    ·intro h i hi
     have := h i (by omega)
     rw [zS, getD_at hi] at this
     rw [zS, getD_at (show i < x.2.1.length by omega)]; exact this
   rw [this]
   cases allFrom (fun c k => fitsS c (r.getD k null)) x.2.1 0 <;> rfl
 ·have hl' : ¬ (r.length : Int) = (x.2.1.length : Int) := by omega
  simp [hl, hl']
theorem spec_l03Key_ok : EV fun n => ∀ (x : T_Table) (r : T_ValS), sm_Table 1048576 x → cTableOk x = true → r.length = x.2.1.length → spec_l03Key n x.1 x.2.1 x.2.2 r = some (cKeyOf x.2.1 x.2.2 r) := (spec_ColAt_ok.and (EV.gt 1048576)).up fun n ⟨h1, hn⟩ x r hs ht hr => by
 have lk := hs.2.2.1
 obtain ⟨hkey, _⟩ := table_facts ht
 rw [spec_l03Key]
 refine (map_loop x.2.2 (fun key => r.getD (cColAt x.2.1 key).toNat null) (fun j k s => spec_l03Key_L1 n j x.2.2 (x.2.2.length : Int) (k : Int) x.1 x.2.1 x.2.2 r s) (fun j s => by simp only [spec_l03Key_L1, lt_cast, zP, zH, zA]) (fun j k s hk hsl => ?_) x.2.2 n 0 [] rfl (by omega) (by omega) rfl).trans (by simp [cKeyOf])
 obtain ⟨k1, k2, k3⟩ := hkey _ (zL hk)
 have hroom : room (s.length + 1) 32 = true := by simp [room]; omega
 simp only [spec_l03Key_L1, lt_cast, zD hk, inR_true hk, zE, getD_at hk, zB, wrap_succ hk (by omega), h1 _ _ _ _ hs.2.1.1, zC, getD_null, inR_int k1 (show cColAt x.2.1 x.2.2[k] < (r.length : Int) by omega), zW, zX, zS, hroom]
theorem impl_keyOf_ok : EV fun n => ∀ (x : T_Table) (r : T_ValS), sm_Table 1048576 x → cTableOk x = true → r.length = x.2.1.length → impl_keyOf n x.1 x.2.1 x.2.2 r = some (cKeyOf x.2.1 x.2.2 r) := (impl_ColAt_ok.and (EV.gt 1048576)).up fun n ⟨h1, hn⟩ x r hs ht hr => by
 have lk := hs.2.2.1
 have h1 : ∀ s, impl_ColAt n x.1 x.2.1 x.2.2 s = some (cColAt x.2.1 s) := fun s => h1 _ _ _ _ hs.2.1.1
 obtain ⟨hkey, _⟩ := table_facts ht
 rw [impl_keyOf]
 refine (map_loop x.2.2 (fun key => r.getD (cColAt x.2.1 key).toNat null) (fun j k s => impl_keyOf_L1 n j x.2.2 (x.2.2.length : Int) (k : Int) x.1 x.2.1 x.2.2 r s) (fun j s => by simp only [impl_keyOf_L1, lt_cast, zP, zH, zA]) (fun j k s hk hsl => ?_) x.2.2 n 0 [] rfl (by omega) (by omega) rfl).trans (by simp [cKeyOf])
 obtain ⟨k1, k2, k3⟩ := hkey _ (zL hk)
 have hroom : room (s.length + 1) 32 = true := by simp [room]; omega
 simp only [impl_keyOf_L1, lt_cast, zD hk, inR_true hk, zE, getD_at hk, zB, wrap_succ hk (by omega), h1, zC, getD_null, inR_int k1 (show cColAt x.2.1 x.2.2[k] < (r.length : Int) by omega), zW, zX, zS, hroom]
def cRowsStep (x : T_Table) (l : T_RowS) (r : T_Row) (k : Nat) : Bool := cRowIn x.2.1 r && (decide (k = 0) || cKeyLess (cKeyOf x.2.1 x.2.2 (l.getD (k - 1) [])) (cKeyOf x.2.1 x.2.2 r))
def cRowsOk (x : T_Table) (l : T_RowS) : Bool := cTableOk x && decide (l.length ≤ 60) && allFrom (cRowsStep x l) l 0
theorem rowIn_len {cs : T_ColS} {r : T_ValS} (h : cRowIn cs r = true) : r.length = cs.length := by
 simp only [cRowIn, zJ, zG] at h; exact h.1
theorem rows_in {x : T_Table} {l : T_RowS} (h : cRowsOk x l = true) : cTableOk x = true ∧ l.length ≤ 60 ∧ ∀ r ∈ l, cRowIn x.2.1 r = true := by
 simp only [cRowsOk, zJ, zG] at h
 refine ⟨h.1.1, h.1.2, fun r hr => ?_⟩
 obtain ⟨i, hi, rfl⟩ := List.mem_iff_getElem.mp hr
 have := (allFrom_iff _ _ _).mp h.2 i hi
 simp only [cRowsStep, zJ] at this
 exact this.1
theorem spec_RowsOk_ok : EV fun n => ∀ (x : T_Table) (l : T_RowS), sm_Table 1048576 x → l.length ≤ 1048576 → spec_RowsOk n x.1 x.2.1 x.2.2 l = some (cRowsOk x l) := (spec_TableOk_ok.and (spec_RowOk_ok.and (spec_l03Key_ok.and (spec_KeyLess_ok.and (EV.gt 1048576))))).up fun n ⟨h1, h2, h3, h4, hn⟩ x l hs hl => by
 simp only [spec_RowsOk, h1 x hs, zC, cRowsOk]
 by_cases ht : cTableOk x = true
 ·simp only [ht, zT, zA, zG1]
  by_cases c : (60 : Int) < (l.length : Int)
  ·rw [zD c, zK (show ¬ l.length ≤ 60 by omega)]; rfl
  ·rw [zK c, zD (show l.length ≤ 60 by omega)]
   simp only [zA, zG1]
   refine (allFrom_loopQ (cRowsStep x l) (fun k => ∀ i, i < k → ∀ h : i < l.length, cRowIn x.2.1 l[i] = true) l (fun j k => spec_RowsOk_L1 n j l l (l.length : Int) (k : Int) x.1 x.2.1 x.2.2) (some true) (fun j => by simp only [spec_RowsOk_L1, lt_cast, zP, zH, zA]) (fun k hk hq hp i hi h => ?_) (fun j k hk hq => ?_) l n 0 rfl (by omega) (by omega) (fun i hi => by omega)).trans ?_
   ·by_cases e : i < k
    ·exact hq i e h
    ·obtain rfl : i = k := by omega
     simp only [cRowsStep, zJ] at hp
     exact hp.1
   ·simp only [spec_RowsOk_L1, lt_cast, zD hk, inR_true hk, zE, getD_at hk, zB, wrap_succ hk (by omega), h2 x l[k] hs, ht, zG1, zC]
    by_cases hr : cRowIn x.2.1 l[k] = true
    ·by_cases h0 : k = 0
     ·subst h0
      have : cRowsStep x l l[0] 0 = true := by simp [cRowsStep, hr]
      simp [hr, this]
     ·have hk1 : k - 1 < l.length := by omega
      have e : cRowsStep x l l[k] k = cKeyLess (cKeyOf x.2.1 x.2.2 l[k - 1]) (cKeyOf x.2.1 x.2.2 l[k]) := by simp only [cRowsStep, hr, zK h0, zG1, Bool.false_or, getD_at hk1]
      have hprev := hq (k - 1) (by omega) hk1
      rw [zD (show (0 : Int) < (k : Int) by omega), pred_cast (by omega) (by omega), inR_true hk1, zE, hr, e, getD_at hk1, h3 x _ hs ht (rowIn_len hprev), h3 x _ hs ht (rowIn_len hr)]
      simp only [zB, zT, zA, zC]
      rw [h4 _ _ (by rw [keyOf_len]; exact hs.2.2.1)]
      exact bif_step _ _
    ·have : cRowsStep x l l[k] k = false := by simp [cRowsStep, hr]
     simp [hr, this]
   ·cases allFrom (cRowsStep x l) l 0 <;> rfl
 ·simp [ht]
theorem impl_RowsOk_ok : EV fun n => ∀ (x : T_Table) (l : T_RowS), sm_Table 1048576 x → l.length ≤ 1048576 → impl_RowsOk n x.1 x.2.1 x.2.2 l = some (cRowsOk x l) := (impl_TableOk_ok.and (impl_rowOk_ok.and (impl_keyOf_ok.and (impl_KeyLess_ok.and (EV.gt 1048576))))).up fun n ⟨h1, h2, h3, h4, hn⟩ x l hs hl => by
 simp only [impl_RowsOk, h1 x hs, zC, cRowsOk]
 by_cases ht : cTableOk x = true
 ·simp only [ht, zT, zA, zG1]
  by_cases c : (60 : Int) < (l.length : Int)
  ·rw [zD c, zK (show ¬ l.length ≤ 60 by omega)]; rfl
  ·rw [zK c, zD (show l.length ≤ 60 by omega)]
   simp only [zA, zG1]
   refine (allFrom_loopQ (cRowsStep x l) (fun k => ∀ i, i < k → ∀ h : i < l.length, cRowIn x.2.1 l[i] = true) l (fun j k => impl_RowsOk_L1 n j l l (l.length : Int) (k : Int) x.1 x.2.1 x.2.2) (some true) (fun j => by simp only [impl_RowsOk_L1, lt_cast, zP, zH, zA]) (fun k hk hq hp i hi h => ?_) (fun j k hk hq => ?_) l n 0 rfl (by omega) (by omega) (fun i hi => by omega)).trans ?_
   ·by_cases e : i < k
    ·exact hq i e h
    ·obtain rfl : i = k := by omega
     simp only [cRowsStep, zJ] at hp
     exact hp.1
   ·simp only [impl_RowsOk_L1, lt_cast, zD hk, inR_true hk, zE, getD_at hk, zB, wrap_succ hk (by omega), h2 x l[k] hs ht, zC]
    by_cases hr : cRowIn x.2.1 l[k] = true
    ·by_cases h0 : k = 0
     ·subst h0
      have : cRowsStep x l l[0] 0 = true := by simp [cRowsStep, hr]
      simp [hr, this]
     ·have hk1 : k - 1 < l.length := by omega
      have e : cRowsStep x l l[k] k = cKeyLess (cKeyOf x.2.1 x.2.2 l[k - 1]) (cKeyOf x.2.1 x.2.2 l[k]) := by simp only [cRowsStep, hr, zK h0, zG1, Bool.false_or, getD_at hk1]
      have hprev := hq (k - 1) (by omega) hk1
      rw [zD (show (0 : Int) < (k : Int) by omega), pred_cast (by omega) (by omega), inR_true hk1, zE, hr, e, getD_at hk1, h3 x _ hs ht (rowIn_len hprev), h3 x _ hs ht (rowIn_len hr)]
      simp only [zB, zT, zA, zC]
      rw [h4 _ _ (by rw [keyOf_len]; exact hs.2.2.1)]
      exact bif_step _ _
    ·have : cRowsStep x l l[k] k = false := by simp [cRowsStep, hr]
     simp [hr, this]
   ·cases allFrom (cRowsStep x l) l 0 <;> rfl
 ·simp [ht]
def cKeyOk (x : T_Table) (key : T_ValS) : Bool := cTableOk x && decide (key.length = x.2.2.length) && allFrom (fun k i => fitsS (x.2.1.getD (cColAt x.2.1 k).toNat CZ) (key.getD i null)) x.2.2 0
theorem spec_KeyOk_ok : EV fun n => ∀ (x : T_Table) (key : T_ValS), sm_Table 1048576 x → spec_KeyOk n x.1 x.2.1 x.2.2 key = some (cKeyOk x key) := (spec_TableOk_ok.and (spec_l03Fits_ok.and (spec_ColAt_ok.and (EV.gt 1048576)))).up fun n ⟨h1, h2, h3, hn⟩ x key hs => by
 have lk := hs.2.2.1
 simp only [spec_KeyOk, h1 x hs, zC, int_bne, cKeyOk]
 by_cases ht : cTableOk x = true
 ·obtain ⟨hkey, _⟩ := table_facts ht
  by_cases hl : key.length = x.2.2.length
  ·have hl' : ((key.length : Int) = (x.2.2.length : Int)) = True := eq_true (by omega)
   simp only [zT, zA, hl', zI, hl, zG1, ht]
   refine (allFrom_loop (fun k i => fitsS (x.2.1.getD (cColAt x.2.1 k).toNat CZ) (key.getD i null)) x.2.2 (fun j k => spec_KeyOk_L1 n j key x.2.2 (x.2.2.length : Int) (k : Int) x.1 x.2.1 x.2.2) (some true) (fun j => by simp only [spec_KeyOk_L1, lt_cast, zP, zH, zA]) (fun j k hk => ?_) x.2.2 n 0 rfl (by omega) (by omega)).trans ?_
   ·have hk2 : k < key.length := by omega
    obtain ⟨k1, k2, k3⟩ := hkey _ (zL hk)
    simp only [spec_KeyOk_L1, lt_cast, zD hk, inR_true hk, inR_true hk2, zE, getD_at hk, zB, wrap_succ hk (by omega), h2, h3 _ _ _ _ hs.2.1.1, inR_int k1 k2, zC, getD_null, getD_CZ]
    exact bif_step _ _
   ·cases allFrom (fun k i => fitsS (x.2.1.getD (cColAt x.2.1 k).toNat CZ) (key.getD i null)) x.2.2 0 <;> rfl
  ·have hl' : ¬ (key.length : Int) = (x.2.2.length : Int) := by omega
   simp [hl, hl', ht]
 ·simp [ht]
theorem impl_KeyOk_ok : EV fun n => ∀ (x : T_Table) (key : T_ValS), sm_Table 1048576 x → impl_KeyOk n x.1 x.2.1 x.2.2 key = some (cKeyOk x key) := (impl_TableOk_ok.and (impl_ValOk_ok.and (impl_ColAt_ok.and (EV.gt 1048576)))).up fun n ⟨h1, h2, h3, hn⟩ x key hs => by
 have lk := hs.2.2.1
 have h3 : ∀ s, impl_ColAt n x.1 x.2.1 x.2.2 s = some (cColAt x.2.1 s) := fun s => h3 _ _ _ _ hs.2.1.1
 simp only [impl_KeyOk, h1 x hs, zC, int_bne, cKeyOk]
 by_cases ht : cTableOk x = true
 ·obtain ⟨hkey, hcol, _⟩ := table_facts ht
  by_cases hl : key.length = x.2.2.length
  ·have hl' : ((key.length : Int) = (x.2.2.length : Int)) = True := eq_true (by omega)
   simp only [zT, zA, hl', zI, hl, zG1, ht]
   refine (allFrom_loop (fun k i => fitsS (x.2.1.getD (cColAt x.2.1 k).toNat CZ) (key.getD i null)) x.2.2 (fun j k => impl_KeyOk_L1 n j key x.2.2 (x.2.2.length : Int) (k : Int) x.1 x.2.1 x.2.2) (some true) (fun j => by simp only [impl_KeyOk_L1, lt_cast, zP, zH, zA]) (fun j k hk => ?_) x.2.2 n 0 rfl (by omega) (by omega)).trans ?_
   ·have hk2 : k < key.length := by omega
    obtain ⟨k1, k2, k3⟩ := hkey _ (zL hk)
    have hin : (cColAt x.2.1 x.2.2[k]).toNat < x.2.1.length := by omega
    have hty := col_ty (hcol _ (zL hin))
    simp only [impl_KeyOk_L1, lt_cast, zD hk, inR_true hk, inR_true hk2, zE, getD_at hk, getD_at hk2, zB, wrap_succ hk (by omega), h2, h3, inR_int k1 k2, zC, getD_CZ, int_bne]
    rw [getD_at hin] at k3
    rw [getD_at hin]
    by_cases hv : cValOk key[k].1 key[k].2.1 key[k].2.2 = true
    ·by_cases h0 : key[k].1 = 0
     ·have : ¬ (0 : Int) = (x.2.1[(cColAt x.2.1 x.2.2[k]).toNat]).2.1 := by omega
      have hf : fitsS (x.2.1[(cColAt x.2.1 x.2.2[k]).toNat]) key[k] = false := by simp [fitsS, hv, h0, k3]
      rw [hf]; simp [hv, h0, this]
     ·have hf : fitsS (x.2.1[(cColAt x.2.1 x.2.2[k]).toNat]) key[k] = decide (key[k].1 = (x.2.1[(cColAt x.2.1 x.2.2[k]).toNat]).2.1) := by simp [fitsS, hv, h0]
      rw [hf, hv]; simp only [zT, zA]; exact bif_step _ _
    ·have hf : fitsS (x.2.1[(cColAt x.2.1 x.2.2[k]).toNat]) key[k] = false := by simp [fitsS, hv]
     rw [hf]; simp [hv]
   ·cases allFrom (fun k i => fitsS (x.2.1.getD (cColAt x.2.1 k).toNat CZ) (key.getD i null)) x.2.2 0 <;> rfl
  ·have hl' : ¬ (key.length : Int) = (x.2.2.length : Int) := by omega
   simp [hl, hl', ht]
 ·simp [ht]
theorem idx_any {α : Type} (p : α → Bool) : ∀ (l : List α) (k : Nat), decide ((0 : Int) ≤ idxFrom p l k) = l.any p
 | [], _ => rfl
 | x :: t, k => by
  simp only [idxFrom, List.any_cons]
  by_cases h : p x = true
  ·simp [h]
  ·simp only [h, Bool.false_or]; exact idx_any p t (k + 1)
def cDdlOk (d : T_Ddl) : Bool := cWordOk d.2.1 && (
 if d.1 = 1 then decide (d.2.2.2.2.1 = E0) && decide (d.2.2.2.2.2 = E0) && cTableOk (d.2.1, (d.2.2.1, d.2.2.2.1)) else
 if d.1 = 2 then d.2.2.1.isEmpty && d.2.2.2.1.isEmpty && decide (d.2.2.2.2.1 = E0) && decide (d.2.2.2.2.2 = E0) else
 if d.1 = 3 then (match d.2.2.1 with
  | [c] => cColOk c && (c.2.2.2.1 || !c.2.2.1) && d.2.2.2.1.isEmpty && decide (d.2.2.2.2.1 = E0) && decide (d.2.2.2.2.2 = E0)
  | _ => false) else
 if d.1 = 4 then d.2.2.1.isEmpty && d.2.2.2.1.isEmpty && cWordOk d.2.2.2.2.1 && decide (d.2.2.2.2.2 = E0) else
 if d.1 = 5 then d.2.2.1.isEmpty && d.2.2.2.1.isEmpty && cWordOk d.2.2.2.2.1 && cWordOk d.2.2.2.2.2 else false)
theorem inR0 {n : Nat} : inR (0 : Int) (n + 1) = true := by simp [inR]
theorem spec_DdlOk_ok : EV fun n => ∀ d : T_Ddl, sm_Ddl 1048576 d → spec_DdlOk n d.1 d.2.1 d.2.2.1 d.2.2.2.1 d.2.2.2.2.1 d.2.2.2.2.2 = some (cDdlOk d) := (spec_WordOk_ok.and (spec_TableOk_ok.and spec_ColOk_ok)).up fun n ⟨h1, h2, h3⟩ d hs => by
 obtain ⟨k, tb, cs, ks, nm, to⟩ := d
 obtain ⟨s1, s2, s3, s4, s5⟩ := hs
 have e2 := h2 (tb, cs, ks) ⟨s1, s2, s3⟩
 simp only at s1 s2 s3 s4 s5 e2
 simp only [spec_DdlOk, h1 tb s1, h1 nm s4, h1 to s5, e2, text_eq, int_beq, zC, cDdlOk]
 have hk : ((ks.length : Int) = 0) = (ks.isEmpty = true) := by cases ks <;> simp <;> omega
 have hc : ((cs.length : Int) = 0) = (cs.isEmpty = true) := by cases cs <;> simp <;> omega
 simp only [hk, hc]
 generalize ks.isEmpty = b1
 change _ = some (cWordOk tb && (if k = 1 then decide (nm = E0) && decide (to = E0) && cTableOk (tb, cs, ks) else _))
 generalize decide (nm = (⟨#[]⟩ : ByteArray)) = b2
 generalize decide (to = (⟨#[]⟩ : ByteArray)) = b3
 cases cWordOk tb
 ·rfl
 by_cases k1 : k = 1
 ·subst k1
  rcases cs with _ | ⟨c, t⟩ <;> cases b2 <;> cases b3 <;> simp
 by_cases k2 : k = 2
 ·subst k2
  rcases cs with _ | ⟨c, t⟩ <;> cases b1 <;> cases b2 <;> simp
 by_cases k3 : k = 3
 ·subst k3
  rcases cs with _ | ⟨c, _ | ⟨d, t⟩⟩
  ·simp
  ·have e3 := h3 c (s2.2 c (by simp))
   simp [e3, inR]
   cases cColOk c <;> cases c.2.2.2.1 <;> cases c.2.2.1 <;> cases b1 <;> cases b2 <;> simp
  ·have : ¬ ((t.length : Int) + 1 + 1 = 1) := by omega
   simp [this]
 by_cases k4 : k = 4
 ·subst k4
  rcases cs with _ | ⟨c, t⟩ <;> cases b1 <;> cases cWordOk nm <;> simp
 by_cases k5 : k = 5
 ·subst k5
  rcases cs with _ | ⟨c, t⟩ <;> cases b1 <;> cases cWordOk nm <;> simp
 rcases cs with _ | ⟨c, t⟩ <;> simp [k1, k2, k3, k4, k5]
theorem impl_copyTexts_ok : EV fun n => ∀ l : List ByteArray, l.length ≤ 1048576 → impl_copyTexts n l = some l := EV.true.up fun n _ l hl => by
 have hroom : room l.length 16 = true := by simp [room]; omega
 simp only [impl_copyTexts, hroom, zB]
theorem impl_copyTable_ok : EV fun n => ∀ x : T_Table, sm_Table 1048576 x → impl_copyTable n x.1 x.2.1 x.2.2 = some x := impl_copyTexts_ok.up fun n h x hs => by
 have hl : x.2.1.length ≤ 1048576 := hs.2.1.1
 have hroom : room x.2.1.length 64 = true := by simp [room]; omega
 have hroom2 : room x.2.1.length 72 = true := by simp [room]; omega
 have hroom3 : room x.2.1.length 80 = true := by simp [room]; omega
 simp only [impl_copyTable, hroom, zB, h _ hs.2.2.1, zC]
theorem impl_Ddl_made_ok : EV fun n => ∀ d : T_Ddl, sm_Ddl 1048576 d → impl_Ddl_made n d.1 d.2.1 d.2.2.1 d.2.2.2.1 d.2.2.2.2.1 d.2.2.2.2.2 = some (d.2.1, (d.2.2.1, d.2.2.2.1)) := impl_copyTable_ok.up fun n h d hs => by
 have := h (d.2.1, (d.2.2.1, d.2.2.2.1)) ⟨hs.1, hs.2.1, hs.2.2.1⟩
 simp only at this
 simp only [impl_Ddl_made, this, zC]
theorem impl_equalDdl_ok : EV fun n => ∀ d e : T_Ddl, sm_Ddl 1048576 d → impl_equalDdl n d.1 d.2.1 d.2.2.1 d.2.2.2.1 d.2.2.2.2.1 d.2.2.2.2.2 e.1 e.2.1 e.2.2.1 e.2.2.2.1 e.2.2.2.2.1 e.2.2.2.2.2 = some (decide (d = e)) := (slices_EqualCol_ok.and slices_EqualStr_ok).up fun n ⟨h1, h2⟩ d e hs => by
 obtain ⟨k, tb, cs, ks, nm, to⟩ := d; obtain ⟨k', tb', cs', ks', nm', to'⟩ := e
 have e1 := h1 cs cs' hs.2.1.1
 have e2 := h2 ks ks' hs.2.2.1.1
 simp only [impl_equalDdl, e1, e2, text_eq, int_beq, zC]
 by_cases a1 : k = k' <;> by_cases a2 : tb = tb' <;> by_cases a3 : cs = cs' <;> by_cases a4 : ks = ks' <;> by_cases a5 : nm = nm' <;> by_cases a6 : to = to' <;> simp [a1, a2, a3, a4, a5, a6]
theorem impl_DdlOk_ok : EV fun n => ∀ d : T_Ddl, sm_Ddl 1048576 d → impl_DdlOk n d.1 d.2.1 d.2.2.1 d.2.2.2.1 d.2.2.2.2.1 d.2.2.2.2.2 = some (cDdlOk d) := (impl_WordOk_ok.and (impl_TableOk_ok.and (impl_ColOk_ok.and (impl_Ddl_made_ok.and impl_equalDdl_ok)))).up fun n ⟨h1, h2, h3, h4, h5⟩ d hs => by
 obtain ⟨k, tb, cs, ks, nm, to⟩ := d
 have e4 := h4 _ hs
 have e5 := fun cs' ks' nm' to' => h5 (k, tb, cs, ks, nm, to) (k, tb, cs', ks', nm', to') hs
 obtain ⟨s1, s2, s3, s4, s5⟩ := hs
 have e2 := h2 (tb, cs, ks) ⟨s1, s2, s3⟩
 simp only at s1 s2 s3 s4 s5 e2 e4 e5
 simp only [impl_DdlOk, h1 tb s1, h1 nm s4, h1 to s5, e2, e4, e5, text_eq, int_beq, zC, cDdlOk, zR, true_and]
 cases cWordOk tb
 ·rfl
 by_cases k1 : k = 1
 ·subst k1
  cases cTableOk (tb, cs, ks) <;> by_cases a5 : nm = E0 <;> by_cases a6 : to = E0 <;> simp [a5, a6]
 have ec : ∀ {α : Type} (l : List α), l.isEmpty = decide (l = []) := fun l => by cases l <;> rfl
 rw [ec cs, ec ks]
 by_cases k2 : k = 2
 ·subst k2
  by_cases a3 : cs = [] <;> by_cases a4 : ks = [] <;> by_cases a5 : nm = E0 <;> by_cases a6 : to = E0 <;> simp [a3, a4, a5, a6]
 by_cases k3 : k = 3
 ·subst k3
  rcases cs with _ | ⟨c, _ | ⟨d, t⟩⟩
  ·simp
  ·have e3 := h3 c (s2.2 c (by simp))
   simp [e3, inR]
   cases cColOk c <;> cases c.2.2.2.1 <;> cases c.2.2.1 <;> by_cases a4 : ks = [] <;> by_cases a5 : nm = E0 <;> by_cases a6 : to = E0 <;> simp [a4, a5, a6]
  ·have : ¬ ((t.length : Int) + 1 + 1 = 1) := by omega
   simp [this]
 by_cases k4 : k = 4
 ·subst k4
  by_cases a3 : cs = [] <;> by_cases a4 : ks = [] <;> by_cases a6 : to = E0 <;> cases cWordOk nm <;> simp [a3, a4, a6]
 by_cases k5 : k = 5
 ·subst k5
  by_cases a3 : cs = [] <;> by_cases a4 : ks = [] <;> cases cWordOk nm <;> simp [a3, a4]
 simp [k1, k2, k3, k4, k5]
def vOk (v : T_Val) : Bool := cValOk v.1 v.2.1 v.2.2
def cVals (l : T_ValS) : Bool := decide (1 ≤ l.length ∧ l.length ≤ 8) && l.all vOk
def noDdl : T_Ddl := (0, (E0, ([], ([], (E0, E0)))))
def cStmtOk (s : T_Stmt) : Bool :=
 if s.1 = 5 then cDdlOk s.2.2.2.2 && decide (s.2.1 = s.2.2.2.2.2.1) && decide (s.2.2.1 = []) && decide (s.2.2.2.1 = []) else
 cWordOk s.2.1 && decide (s.2.2.2.2 = noDdl) && (if s.1 = 1 then decide (s.2.2.1 = []) && cVals s.2.2.2.1 else if s.1 = 2 then cVals s.2.2.1 && cVals s.2.2.2.1 else
  if s.1 = 3 then cVals s.2.2.1 && decide (s.2.2.2.1 = []) else if s.1 = 4 then decide (s.2.2.1 = []) && decide (s.2.2.2.1 = []) else false)
theorem len0 {α : Type} (l : List α) : decide ((l.length : Int) = 0) = l.isEmpty := by cases l <;> simp; omega
theorem empty_eq {α : Type} [DecidableEq α] (l : List α) : l.isEmpty = decide (l = []) := by cases l <;> rfl
theorem ddl_word {d : T_Ddl} (h : cDdlOk d = true) : cWordOk d.2.1 = true := by
 simp only [cDdlOk, zJ] at h; exact h.1
theorem spec_l04Vals_ok : EV fun n => ∀ l : T_ValS, l.length ≤ 1048576 → spec_l04Vals n l = some (cVals l) := (spec_ValOk_ok.and (EV.gt 1048576)).up fun n ⟨h, hn⟩ l hl => by
 rw [spec_l04Vals]
 refine (all_loop vOk l (fun j k => spec_l04Vals_L1 n j l l (l.length : Int) (k : Int)) (some (decide (1 ≤ l.length ∧ l.length ≤ 8))) (fun j => ?_) (fun j k hk => ?_) l n 0 rfl (by omega) (by omega)).trans ?_
 ·simp only [spec_l04Vals_L1, lt_cast, zP, zH, zA]
  by_cases c : (1 : Int) ≤ (l.length : Int)
  ·rw [zD c, zB]; congr 1; exact decide_eq_decide.mpr (by omega)
  ·rw [zK c, zA]; congr 1; exact (zK (by omega)).symm
 ·simp only [spec_l04Vals_L1, lt_cast, zD hk, inR_true hk, zE, getD_at hk, zB, wrap_succ hk (by omega), h, zC]
  exact bif_step _ _
 ·simp only [cVals]; cases l.all vOk <;> simp
theorem spec_l04NoDdl_ok : EV fun n => ∀ d : T_Ddl, spec_l04NoDdl n d.1 d.2.1 d.2.2.1 d.2.2.2.1 d.2.2.2.2.1 d.2.2.2.2.2 = some (decide (d = noDdl)) := EV.true.up fun n _ d => by
 obtain ⟨k, tb, cs, ks, nm, to⟩ := d
 simp only [spec_l04NoDdl, text_eq, int_beq, len0, empty_eq, noDdl, zR]
 by_cases a1 : k = 0 <;> by_cases a2 : tb = E0 <;> by_cases a3 : cs = [] <;> by_cases a4 : ks = [] <;> by_cases a5 : nm = E0 <;> by_cases a6 : to = E0 <;> simp [a1, a2, a3, a4, a5, a6]
theorem spec_StmtOk_ok : EV fun n => ∀ s : T_Stmt, sm_Stmt 1048576 s → spec_StmtOk n s.1 s.2.1 s.2.2.1 s.2.2.2.1 s.2.2.2.2.1 s.2.2.2.2.2.1 s.2.2.2.2.2.2.1 s.2.2.2.2.2.2.2.1 s.2.2.2.2.2.2.2.2.1 s.2.2.2.2.2.2.2.2.2 = some (cStmtOk s) :=
 (spec_WordOk_ok.and (spec_l04Vals_ok.and (spec_l04NoDdl_ok.and spec_DdlOk_ok))).up fun n ⟨h1, h2, h3, h4⟩ s hs => by
 obtain ⟨k, tb, key, row, d⟩ := s
 obtain ⟨s1, s2, s3, s4⟩ := hs
 have e1 := h1 tb s1
 have e2 := h2 key s2.1
 have e3 := h2 row s3.1
 have e4 := h3 d
 have e5 := h4 d s4
 simp only [spec_StmtOk, e1, e2, e3, e4, e5, text_eq, int_beq, len0, empty_eq, zC, cStmtOk]
 by_cases k5 : k = 5
 ·subst k5
  cases hd : cDdlOk d
  ·cases cWordOk tb <;> by_cases a3 : key = [] <;> by_cases a4 : row = [] <;> simp [a3, a4]
  ·have hw := ddl_word hd
   by_cases a : tb = d.2.1
   ·rw [a, hw]
    by_cases a3 : key = [] <;> by_cases a4 : row = [] <;> simp [a3, a4]
   ·have a' : ¬ d.2.1 = tb := fun e => a e.symm
    cases cWordOk tb <;> by_cases a3 : key = [] <;> by_cases a4 : row = [] <;> simp [a3, a4, a, a']
 ·simp only [if_neg k5]
  cases cWordOk tb
  ·simp
  by_cases k1 : k = 1
  ·subst k1; by_cases a3 : key = [] <;> cases cVals row <;> simp [a3]
  by_cases k2 : k = 2
  ·subst k2; cases cVals key <;> cases cVals row <;> simp
  by_cases k3 : k = 3
  ·subst k3; by_cases a4 : row = [] <;> cases cVals key <;> simp [a4]
  by_cases k4 : k = 4
  ·subst k4; by_cases a3 : key = [] <;> by_cases a4 : row = [] <;> simp [a3, a4]
  simp [k1, k2, k3, k4, k5]
theorem impl_areVals_ok : EV fun n => ∀ l : T_ValS, l.length ≤ 1048576 → impl_areVals n l = some (cVals l) :=
 (within_ok.and ((((impl_ValOk_ok.up (q := fun n => ∀ a b s, impl_areVals_1 n a b s = some (!cValOk a b s)) fun n h a b s => by simp only [impl_areVals_1, h, zC]).and (EV.gt 1048576)).up
  (q := fun n => ∀ l : T_ValS, l.length ≤ 1048576 → slices_IndexFunc_impl_Val_impl_Val__impl_areVals_1 n l = some (idx (fun v => !vOk v) l)) (fun n ⟨h, hn⟩ l hl => by
  rw [slices_IndexFunc_impl_Val_impl_Val__impl_areVals_1]
  refine find_loop (fun v => !vOk v) l (fun j k => slices_IndexFunc_impl_Val_impl_Val__impl_areVals_1_L1 n j l (l.length : Int) (k : Int)) (fun j => by simp only [slices_IndexFunc_impl_Val_impl_Val__impl_areVals_1_L1, lt_cast, zP, zH, zA]) (fun j k hk => ?_) l n 0 rfl (by omega) (by omega)
  simp only [slices_IndexFunc_impl_Val_impl_Val__impl_areVals_1_L1, lt_cast, zD hk, inR_true hk, zE, getD_at hk, zB, wrap_succ hk (by omega), h, zC]
  exact bif_step' _ _)).up (q := fun n => ∀ l : T_ValS, l.length ≤ 1048576 → slices_ContainsFunc_impl_Val_impl_Val__impl_areVals_1 n l = some (l.any fun v => !vOk v)) (fun n h l hl => by
   simp only [slices_ContainsFunc_impl_Val_impl_Val__impl_areVals_1, h l hl, zC, idx, idx_any]))).up fun n ⟨h1, h2⟩ l hl => by
 simp only [impl_areVals, h1, h2 l hl, zC, cVals]
 rw [show decide ((1 : Int) ≤ (l.length : Int) ∧ (l.length : Int) ≤ 8) = decide (1 ≤ l.length ∧ l.length ≤ 8) from decide_eq_decide.mpr (by omega)]
 have : (!l.any fun v => !vOk v) = l.all vOk := by
  induction l with
  | nil => rfl
  | cons a t ih => simp only [List.any_cons, List.all_cons, Bool.not_or, Bool.not_not]; rw [ih (by simp at hl; omega)]
 rw [this]
 cases decide (1 ≤ l.length ∧ l.length ≤ 8) <;> simp
theorem impl_StmtOk_ok : EV fun n => ∀ s : T_Stmt, sm_Stmt 1048576 s → impl_StmtOk n s.1 s.2.1 s.2.2.1 s.2.2.2.1 s.2.2.2.2.1 s.2.2.2.2.2.1 s.2.2.2.2.2.2.1 s.2.2.2.2.2.2.2.1 s.2.2.2.2.2.2.2.2.1 s.2.2.2.2.2.2.2.2.2 = some (cStmtOk s) :=
 (impl_WordOk_ok.and (impl_areVals_ok.and (impl_equalDdl_ok.and impl_DdlOk_ok))).up fun n ⟨h1, h2, h3, h4⟩ s hs => by
 obtain ⟨k, tb, key, row, d⟩ := s
 obtain ⟨s1, s2, s3, s4⟩ := hs
 have e1 := h1 tb s1
 have e2 := h2 key s2.1
 have e3 := h2 row s3.1
 have e4 := h3 d noDdl s4
 have e5 := h4 d s4
 simp only [noDdl] at e4
 simp only [impl_StmtOk, e1, e2, e3, e5, text_eq, int_beq, len0, empty_eq, zC, cStmtOk]
 by_cases k5 : k = 5
 ·subst k5
  cases cDdlOk d <;> by_cases a : tb = d.2.1 <;> by_cases a3 : key = [] <;> by_cases a4 : row = [] <;> simp [a3, a4, a]
 ·rw [e4]
  simp only [if_neg k5, zC, zK k5, zA, noDdl]
  cases cWordOk tb
  ·simp
  by_cases hb : d = (0, (E0, ([], ([], (E0, E0)))))
  ·simp only [hb, zI, zT, zA, zG1]
   by_cases k1 : k = 1
   ·subst k1; by_cases a3 : key = [] <;> cases cVals row <;> simp [a3]
   by_cases k2 : k = 2
   ·subst k2; cases cVals key <;> cases cVals row <;> simp
   by_cases k3 : k = 3
   ·subst k3; by_cases a4 : row = [] <;> cases cVals key <;> simp [a4]
   by_cases k4 : k = 4
   ·subst k4; by_cases a3 : key = [] <;> by_cases a4 : row = [] <;> simp [a3, a4]
   simp [k1, k2, k3, k4]
  ·simp [hb]
def cRowAt (x : T_Table) (l : T_RowS) (key : T_ValS) : Int := if cRowsOk x l = true then idx (fun r => decide (cKeyOf x.2.1 x.2.2 r = key)) l else -1
theorem spec_RowAt_ok : EV fun n => ∀ (x : T_Table) (l : T_RowS) (key : T_ValS), sm_Table 1048576 x → l.length ≤ 1048576 → spec_RowAt n x.1 x.2.1 x.2.2 l key = some (cRowAt x l key) := (spec_RowsOk_ok.and (spec_l03Key_ok.and (spec_l03SameVals_ok.and (EV.gt 1048576)))).up fun n ⟨h1, h2, h3, hn⟩ x l key hs hl => by
 simp only [spec_RowAt, h1 x l hs hl, zC, cRowAt]
 by_cases hr : cRowsOk x l = true
 ·obtain ⟨ht, _, hin⟩ := rows_in hr
  simp only [hr, zT, zA, if_true]
  refine find_loop (fun r => decide (cKeyOf x.2.1 x.2.2 r = key)) l (fun j k => spec_RowAt_L1 n j key l (l.length : Int) (k : Int) x.1 x.2.1 x.2.2) (fun j => by simp only [spec_RowAt_L1, lt_cast, zP, zH, zA]) (fun j k hk => ?_) l n 0 rfl (by omega) (by omega)
  have hk2 := rowIn_len (hin _ (zL hk))
  simp only [spec_RowAt_L1, lt_cast, zD hk, inR_true hk, zE, getD_at hk, zB, wrap_succ hk (by omega), h2 x _ hs ht hk2, zC]
  rw [h3 _ _ (by rw [keyOf_len]; exact hs.2.2.1)]
  exact bif_step' _ _
 ·simp [hr]
theorem impl_rowAt_ok : EV fun n => ∀ (x : T_Table) (l : T_RowS) (key : T_ValS), sm_Table 1048576 x → l.length ≤ 1048576 → cTableOk x = true → (∀ r ∈ l, r.length = x.2.1.length) → impl_rowAt n x.1 x.2.1 x.2.2 l key = some (idx (fun r => decide (cKeyOf x.2.1 x.2.2 r = key)) l) :=
 (((impl_keyOf_ok.and slices_EqualVal_ok).up (q := fun n => ∀ (x : T_Table) (r key : T_ValS), sm_Table 1048576 x → cTableOk x = true → r.length = x.2.1.length → impl_rowAt_1 n r x key = some (decide (cKeyOf x.2.1 x.2.2 r = key))) fun n ⟨h1, h2⟩ x r key hs ht hr => by
  simp only [impl_rowAt_1, h1 x r hs ht hr, zC]
  rw [h2 _ _ (by rw [keyOf_len]; exact hs.2.2.1)]; rfl).and (EV.gt 1048576)).up
  (q := fun n => ∀ (x : T_Table) (l : T_RowS) (key : T_ValS), sm_Table 1048576 x → l.length ≤ 1048576 → cTableOk x = true → (∀ r ∈ l, r.length = x.2.1.length) → slices_IndexFunc_impl_Row_impl_Row__impl_rowAt_1 n l x key = some (idx (fun r => decide (cKeyOf x.2.1 x.2.2 r = key)) l)) (fun n ⟨h, hn⟩ x l key hs hl ht hr => by
  rw [slices_IndexFunc_impl_Row_impl_Row__impl_rowAt_1]
  refine find_loop (fun r => decide (cKeyOf x.2.1 x.2.2 r = key)) l (fun j k => slices_IndexFunc_impl_Row_impl_Row__impl_rowAt_1_L1 n j l x key (l.length : Int) (k : Int)) (fun j => by simp only [slices_IndexFunc_impl_Row_impl_Row__impl_rowAt_1_L1, lt_cast, zP, zH, zA]) (fun j k hk => ?_) l n 0 rfl (by omega) (by omega)
  simp only [slices_IndexFunc_impl_Row_impl_Row__impl_rowAt_1_L1, lt_cast, zD hk, inR_true hk, zE, getD_at hk, zB, wrap_succ hk (by omega), h x _ key hs ht (hr _ (zL hk)), zC]
  exact bif_step' _ _) |>.up fun n h x l key hs hl ht hr => by
   have := h x l key hs hl ht hr
   simp only [impl_rowAt]
   rw [show (x.1, (x.2.1, x.2.2)) = x from rfl, this]; rfl
def cDbOk (d : T_Db) : Bool := cCatOk d.1 && decide (d.2.length = d.1.length) && allFrom (fun t k => cRowsOk t (d.2.getD k [])) d.1 0
theorem allFrom_get {α : Type} {p : α → Nat → Bool} {l : List α} (h : allFrom p l 0 = true) {i : Nat} (hi : i < l.length) : p l[i] i = true := by
 have := (allFrom_iff p l 0).mp h i hi
 rwa [zS] at this
theorem cat_facts {l : T_TableS} (h : cCatOk l = true) : l.length ≤ 6 ∧ ∀ t ∈ l, cTableOk t = true := by
 simp only [cCatOk, zJ, zG] at h
 refine ⟨h.1, fun t ht => ?_⟩
 obtain ⟨i, hi, rfl⟩ := List.mem_iff_getElem.mp ht
 have := allFrom_get h.2 hi
 simp only [cCatStep, zJ] at this
 exact this.1
theorem db_facts {d : T_Db} (h : cDbOk d = true) : cCatOk d.1 = true ∧ d.2.length = d.1.length ∧ ∀ i (h1 : i < d.1.length) (h2 : i < d.2.length), cRowsOk d.1[i] d.2[i] = true := by
 simp only [cDbOk, zJ, zG] at h
 refine ⟨h.1.1, h.1.2, fun i h1 h2 => ?_⟩
 have := allFrom_get h.2 h1
 rwa [getD_at h2] at this
theorem spec_DbOk_ok : EV fun n => ∀ d : T_Db, sm_Db 1048576 d → spec_DbOk n d.1 d.2 = some (cDbOk d) := (spec_CatOk_ok.and (spec_RowsOk_ok.and (EV.gt 1048576))).up fun n ⟨h1, h2, hn⟩ d hs => by
 have lc : d.1.length ≤ 1048576 := hs.1.1
 simp only [spec_DbOk, h1 d.1 hs.1, zC, cDbOk, int_bne]
 cases cCatOk d.1
 ·simp
 by_cases hl : d.2.length = d.1.length
 ·have hl' : ((d.2.length : Int) = (d.1.length : Int)) = True := eq_true (by omega)
  simp only [zT, zA, hl', zI, hl, zG1]
  refine (allFrom_loop (fun t k => cRowsOk t (d.2.getD k [])) d.1 (fun j k => spec_DbOk_L1 n j d.1 (d.1.length : Int) (k : Int) d.1 d.2) (some true) (fun j => by simp only [spec_DbOk_L1, lt_cast, zP, zH, zA]) (fun j k hk => ?_) d.1 n 0 rfl (by omega) (by omega)).trans ?_
  ·have hk2 : k < d.2.length := by omega
   simp only [spec_DbOk_L1, lt_cast, zD hk, inR_true hk, inR_true hk2, zE, getD_at hk, getD_at hk2, zB, wrap_succ hk (by omega), h2 d.1[k] d.2[k] (hs.1.2 _ (zL hk)) (hs.2.2 _ (zL hk2)).1, zC]
   exact bif_step _ _
  ·cases allFrom (fun t k => cRowsOk t (d.2.getD k [])) d.1 0 <;> rfl
 ·have hl' : ¬ (d.2.length : Int) = (d.1.length : Int) := by omega
  simp [hl, hl']
theorem impl_DbOk_ok : EV fun n => ∀ d : T_Db, sm_Db 1048576 d → impl_DbOk n d.1 d.2 = some (cDbOk d) := (impl_CatOk_ok.and (impl_RowsOk_ok.and (EV.gt 1048576))).up fun n ⟨h1, h2, hn⟩ d hs => by
 have lc : d.1.length ≤ 1048576 := hs.1.1
 simp only [impl_DbOk, h1 d.1 hs.1, zC, cDbOk, int_bne]
 cases cCatOk d.1
 ·simp
 by_cases hl : d.2.length = d.1.length
 ·have hl' : ((d.2.length : Int) = (d.1.length : Int)) = True := eq_true (by omega)
  simp only [zT, zA, hl', zI, hl, zG1]
  refine (allFrom_loop (fun t k => cRowsOk t (d.2.getD k [])) d.1 (fun j k => impl_DbOk_L1 n j d.1 (d.1.length : Int) (k : Int) d.1 d.2) (some true) (fun j => by simp only [impl_DbOk_L1, lt_cast, zP, zH, zA]) (fun j k hk => ?_) d.1 n 0 rfl (by omega) (by omega)).trans ?_
  ·have hk2 : k < d.2.length := by omega
   simp only [impl_DbOk_L1, lt_cast, zD hk, inR_true hk, inR_true hk2, zE, getD_at hk, getD_at hk2, zB, wrap_succ hk (by omega), h2 d.1[k] d.2[k] (hs.1.2 _ (zL hk)) (hs.2.2 _ (zL hk2)).1, zC]
   exact bif_step _ _
  ·cases allFrom (fun t k => cRowsOk t (d.2.getD k [])) d.1 0 <;> rfl
 ·have hl' : ¬ (d.2.length : Int) = (d.1.length : Int) := by omega
  simp [hl, hl']
def dig (d : Int) : ByteArray := strOfNums [48 + d]
def decs : Nat → Int → ByteArray
 | 0, _ => E0
 | f + 1, a => if a < 10 then dig a else decs f (a / 10) ++ dig (a % 10)
def minus : ByteArray := ⟨#[45]⟩
def cNumText (a : Int) : ByteArray := if -1099511627775 ≤ a ∧ a ≤ 1099511627775 then (if a < 0 then minus ++ decs 14 (-a) else decs 14 a) else E0
def hexs : ByteArray := ⟨#[48, 49, 50, 51, 52, 53, 54, 55, 56, 57, 97, 98, 99, 100, 101, 102]⟩
def hexd (k : Nat) : Int := bt hexs (k : Int)
abbrev plainB (b : UInt8) : Prop := 33 ≤ b.toNat ∧ b.toNat ≤ 126 ∧ b.toNat ≠ 39 ∧ b.toNat ≠ 37
def quoteB (b : UInt8) : List Int := if plainB b then [(b.toNat : Int)] else [37, hexd (b.toNat / 16), hexd (b.toNat % 16)]
def quoteL : List UInt8 → List Int
 | [] => []
 | b :: t => quoteB b ++ quoteL t
def cQuote (s : ByteArray) : ByteArray := strOfNums ([39] ++ quoteL s.data.toList ++ [39])
def txtNull : ByteArray := ⟨#[110, 117, 108, 108]⟩
def txtBool (b : Int) : ByteArray := if b = 1 then ⟨#[116, 114, 117, 101]⟩ else ⟨#[102, 97, 108, 115, 101]⟩
def cValText (x : T_Val) : ByteArray := if cValOk x.1 x.2.1 x.2.2 = true then (if x.1 = 0 then txtNull else if x.1 = 1 then txtBool x.2.1 else if x.1 = 2 then cNumText x.2.1 else cQuote x.2.2) else E0
def space : ByteArray := ⟨#[32]⟩
def glueK : Nat → ByteArray → List ByteArray → ByteArray
 | _, acc, [] => acc
 | k, acc, t :: r => glueK (k + 1) (if 0 < k then acc ++ space ++ t else acc ++ t) r
def cJoin (l : List ByteArray) : ByteArray := glueK 0 E0 l
def tyL : List ByteArray := [⟨#[]⟩, ⟨#[98, 111, 111, 108]⟩, ⟨#[105, 110, 116]⟩, ⟨#[116, 101, 120, 116]⟩]
def tyN (a : Int) : ByteArray := tyL.getD a.toNat E0
def colTs (c : T_Col) : List ByteArray := [c.1, tyN c.2.1] ++ (if c.2.2.1 = true then [⟨#[110, 111, 116]⟩] else []) ++ (if c.2.2.2.1 = true then [⟨#[61]⟩ ++ cValText c.2.2.2.2] else [])
def colsTs : T_ColS → List ByteArray
 | [] => []
 | c :: t => [⟨#[40]⟩] ++ colTs c ++ [⟨#[41]⟩] ++ colsTs t
def verbs : List ByteArray := [⟨#[]⟩, ⟨#[99, 114, 101, 97, 116, 101]⟩, ⟨#[100, 114, 111, 112]⟩, ⟨#[97, 100, 100]⟩, ⟨#[111, 117, 116]⟩, ⟨#[110, 97, 109, 101]⟩]
def ddlTs (d : T_Ddl) : List ByteArray := [verbs.getD d.1.toNat E0, d.2.1] ++ (if d.1 = 1 then colsTs d.2.2.1 ++ [⟨#[107, 101, 121]⟩] ++ d.2.2.2.1 else if d.1 = 3 then (match d.2.2.1 with
 | c :: _ => colTs c
 | [] => []) else if d.1 = 4 then [d.2.2.2.2.1] else if d.1 = 5 then [d.2.2.2.2.1, d.2.2.2.2.2] else [])
def cDdlText (d : T_Ddl) : ByteArray := if cDdlOk d = true then cJoin (ddlTs d) else E0
theorem ddlOk_kind {d : T_Ddl} (h : cDdlOk d = true) : d.1 = 1 ∨ d.1 = 2 ∨ d.1 = 3 ∨ d.1 = 4 ∨ d.1 = 5 := by
 simp only [cDdlOk, zJ] at h
 have h2 := h.2
 by_cases c1 : d.1 = 1
 ·exact Or.inl c1
 ·by_cases c2 : d.1 = 2
  ·exact Or.inr (Or.inl c2)
  ·by_cases c3 : d.1 = 3
   ·exact Or.inr (Or.inr (Or.inl c3))
   ·by_cases c4 : d.1 = 4
    ·exact Or.inr (Or.inr (Or.inr (Or.inl c4)))
    ·by_cases c5 : d.1 = 5
     ·exact Or.inr (Or.inr (Or.inr (Or.inr c5)))
     ·rw [if_neg c1, if_neg c2, if_neg c3, if_neg c4, if_neg c5] at h2; cases h2
theorem ddlOk_1 {d : T_Ddl} (h : cDdlOk d = true) (k : d.1 = 1) : cTableOk (d.2.1, (d.2.2.1, d.2.2.2.1)) = true := by
 simp only [cDdlOk, zJ] at h
 have h2 := h.2
 rw [if_pos k] at h2
 simp only [zJ] at h2; exact h2.2
theorem ddlOk_3 {d : T_Ddl} (h : cDdlOk d = true) (k : d.1 = 3) : ∃ c, d.2.2.1 = [c] ∧ cColOk c = true := by
 simp only [cDdlOk, zJ] at h
 have h2 := h.2
 rw [if_neg (by omega), if_neg (by omega), if_pos k] at h2
 cases e : d.2.2.1 with
 | nil => rw [e] at h2; cases h2
 | cons c t =>
  cases t with
  | nil => rw [e] at h2; simp only [zJ] at h2; exact ⟨c, rfl, h2.1.1.1.1⟩
  | cons => rw [e] at h2; cases h2
theorem tableOk_keys {x : T_Table} (h : cTableOk x = true) : x.2.2 ≠ [] := by
 simp only [cTableOk, zJ, zG] at h
 have := h.1.1.2
 intro e; rw [e] at this; simp at this
theorem dbOk_len {d : T_Db} (h : cDbOk d = true) : d.2.length = d.1.length ∧ d.1.length ≤ 6 := by
 simp only [cDbOk, zJ, zG] at h
 exact ⟨h.1.2, (cat_facts h.1.1).1⟩
theorem spec_l02At_ok : EV fun n => ∀ (l : T_TableS) (s : ByteArray), l.length ≤ 1048576 → spec_l02At n l s = some (idx (fun t => decide (t.1 = s)) l) := (EV.gt 1048577).up fun n hn l s hl => by
 rw [spec_l02At]
 refine find_loop (fun t => decide (t.1 = s)) l (fun j k => spec_l02At_L1 n j s l (l.length : Int) (k : Int)) (fun j => ?_) (fun j k hk => ?_) l n 0 rfl (by omega) (by omega)
 ·simp only [spec_l02At_L1, lt_cast, zP, zH, zA]
 ·simp only [spec_l02At_L1, lt_cast, zD hk, inR_true hk, zE, getD_at hk, zB, wrap_succ hk (by omega), text_eq]
  exact bif_step' _ _
theorem spec_l02Table_ok : EV fun n => ∀ x : T_Table, sm_Table 1048576 x → spec_l02Table n x.1 x.2.1 x.2.2 = some x := EV.true.up fun n _ x hs => by
 have h1 := hs.2.1.1
 have h2 := hs.2.2.1
 have r1 : room (([] : T_ColS).length + x.2.1.length) 64 = true := by simp only [room, zG, zX]; omega
 have r2 : room (([] : List ByteArray).length + x.2.2.length) 16 = true := by simp only [room, zG, zX]; omega
 simp only [spec_l02Table, r1, r2, zB, List.nil_append]
theorem impl_Cat_at_ok : EV fun n => ∀ (l : T_TableS) (s : ByteArray), l.length ≤ 1048576 → impl_Cat_at n l s = some (idx (fun t => decide (t.1 = s)) l) := by
 have h0 : EV fun n => ∀ (l : T_TableS) (s : ByteArray), l.length ≤ 1048576 → slices_IndexFunc_impl_Table_impl_Table__impl_Cat_at_1 n l s = some (idx (fun t => decide (t.1 = s)) l) := (((EV.gt 0).up (q := fun n => ∀ (t : T_Table) (s : ByteArray), impl_Cat_at_1 n t.1 t.2.1 t.2.2 s = some (decide (t.1 = s))) fun n _ t s => by simp only [impl_Cat_at_1, text_eq]).and (EV.gt 1048577)).up fun n ⟨h, hn⟩ l s hl => by
  rw [slices_IndexFunc_impl_Table_impl_Table__impl_Cat_at_1]
  refine find_loop (fun t => decide (t.1 = s)) l (fun j k => slices_IndexFunc_impl_Table_impl_Table__impl_Cat_at_1_L1 n j l s (l.length : Int) (k : Int)) (fun j => ?_) (fun j k hk => ?_) l n 0 rfl (by omega) (by omega)
  ·simp only [slices_IndexFunc_impl_Table_impl_Table__impl_Cat_at_1_L1, lt_cast, zP, zH, zA]
  ·simp only [slices_IndexFunc_impl_Table_impl_Table__impl_Cat_at_1_L1, lt_cast, zD hk, inR_true hk, zE, getD_at hk, zB, wrap_succ hk (by omega), h, zC]
   exact bif_step' _ _
 exact h0.up fun n h l s hl => by simp only [impl_Cat_at, h l s hl, zC]
def noTable : T_Table := (E0, ([], []))
theorem spec_l03Row_ok : EV fun n => ∀ r : T_ValS, r.length ≤ 1048576 → spec_l03Row n r = some r := EV.true.up fun n _ r hr => by
 have r1 : room r.length 32 = true := by simp only [room, zG]; omega
 have r2 : room (([] : T_ValS).length + r.length) 32 = true := by simp only [room, zG, zX]; omega
 simp [spec_l03Row, r1]
theorem spec_l03Copy_ok : EV fun n => ∀ l : T_RowS, sm_RowS 1048576 l → spec_l03Copy n l = some l := (spec_l03Row_ok.and (EV.gt 1048577)).up fun n ⟨h, hn⟩ l hs => by
 have hl := hs.1
 simp only [spec_l03Copy]
 refine (map_loop l id (fun j k acc => spec_l03Copy_L1 n j l (l.length : Int) (k : Int) acc) (fun j acc => ?_) (fun j k acc hk ha => ?_) l n 0 [] rfl (by omega) (by omega) rfl).trans (by simp)
 ·simp only [spec_l03Copy_L1, lt_cast, zP, zH, zA]
 ·have e := h l[k] (hs.2 _ (zL hk)).1
  have r3 : ∀ x : T_ValS, room (acc.length + [x].length) 24 = true := fun x => by simp only [room, zG, zW, zX]; omega
  simp only [spec_l03Copy_L1, lt_cast, zD hk, inR_true hk, zE, getD_at hk, zB, wrap_succ hk (by omega), e, zC, r3, id]
theorem impl_copyVals_ok : EV fun n => ∀ r : T_ValS, r.length ≤ 1048576 → impl_copyVals n r = some r := EV.true.up fun n _ r hr => by
 have r1 : room r.length 32 = true := by simp only [room, zG]; omega
 have r2 : room (([] : T_ValS).length + r.length) 32 = true := by simp only [room, zG, zX]; omega
 simp [impl_copyVals, r1]
theorem impl_copyRows_ok : EV fun n => ∀ l : T_RowS, sm_RowS 1048576 l → impl_copyRows n l = some l := (impl_copyVals_ok.and (EV.gt 1048577)).up fun n ⟨h, hn⟩ l hs => by
 have hl := hs.1
 simp only [impl_copyRows]
 refine (map_loop l id (fun j k acc => impl_copyRows_L1 n j l (l.length : Int) (k : Int) acc) (fun j acc => ?_) (fun j k acc hk ha => ?_) l n 0 [] rfl (by omega) (by omega) rfl).trans (by simp)
 ·simp only [impl_copyRows_L1, lt_cast, zP, zH, zA]
 ·have e := h l[k] (hs.2 _ (zL hk)).1
  have r3 : ∀ x : T_ValS, room (acc.length + [x].length) 24 = true := fun x => by simp only [room, zG, zW, zX]; omega
  simp only [impl_copyRows_L1, lt_cast, zD hk, inR_true hk, zE, getD_at hk, zB, wrap_succ hk (by omega), e, zC, r3, id]
theorem runs_len {cs : T_ColS} : ∀ {ks : T_StringS} {last : Int}, (runs (keyStep cs) ks last).isSome = true → -1 ≤ last → last < (cs.length : Int) → last + (ks.length : Int) < (cs.length : Int)
 | [], last, _, _, h => by simpa using h
 | x :: t, last, h, hl, h2 => by
  simp only [runs, keyStep] at h
  split at h
  ·rename_i hc
   have i2 : cColAt cs x < (cs.length : Int) := (idx_lt _ _).2
   have := runs_len (ks := t) (last := cColAt cs x) h (by omega) i2
   simp only [zW]
   omega
  ·simp at h
theorem keys_len {x : T_Table} (h : cTableOk x = true) : x.2.2.length ≤ 8 ∧ x.2.1.length ≤ 8 := by
 simp only [cTableOk, zJ, zG] at h
 obtain ⟨⟨⟨⟨_, h1⟩, h2⟩, _⟩, h3⟩ := h
 have := runs_len h3 (by omega) (by omega)
 omega
def wsOk (ws : List ByteArray) : Prop := ws.length ≤ 1048577 ∧ ∀ w ∈ ws, w.size ≤ 1048576
theorem wsOk.drop {ws : List ByteArray} (h : wsOk ws) (i : Nat) : wsOk (ws.drop i) := ⟨by have := h.1; simp; omega, fun w hw => h.2 w (List.mem_of_mem_drop hw)⟩
theorem wsOk.take {ws : List ByteArray} (h : wsOk ws) (i : Nat) : wsOk (ws.take i) := ⟨by have := h.1; simp; omega, fun w hw => h.2 w (List.mem_of_mem_take hw)⟩
theorem idx_shift {α : Type} (p : α → Bool) : ∀ (t : List α) (k : Nat), (idxFrom p t k = -1 ∧ idxFrom p t 0 = -1) ∨ ∃ m : Nat, m < t.length ∧ idxFrom p t 0 = (m : Int) ∧ idxFrom p t k = ((k + m : Nat) : Int)
 | [], k => .inl ⟨rfl, rfl⟩
 | x :: t, k => by
  simp only [idxFrom]
  by_cases h : p x = true
  ·right; exact ⟨0, by simp, by simp [h], by simp [h]⟩
  ·simp only [if_neg h]
   rcases idx_shift p t (k + 1) with ⟨a, _⟩ | ⟨m, a, b, c⟩
   ·left
    refine ⟨a, ?_⟩
    rcases idx_shift p t 1 with ⟨d, _⟩ | ⟨m, d, e, _⟩
    ·exact d
    ·rcases idx_shift p t (k + 1) with ⟨_, g⟩ | ⟨m', _, _, g⟩
     ·rw [e] at g; omega
     ·rw [a] at g; omega
   ·right
    refine ⟨m + 1, by simp; omega, ?_, by rw [c]; omega⟩
    rcases idx_shift p t 1 with ⟨_, d⟩ | ⟨m', _, d, e⟩
    ·rw [b] at d; omega
    ·rw [b] at d; rw [e]; omega
theorem idx_cons_ne {α : Type} {p : α → Bool} {x : α} {t : List α} (h : p x = false) : idx p (x :: t) = idxFrom p t 1 := by simp [idx, idxFrom, h]
def fin (d : T_Ddl) (s : ByteArray) : T_Ddl × (Bool × Unit) := if cDdlText d = s then (d, (true, ())) else (noDdl, (false, ()))
theorem bytesLess_tri : ∀ x y : List UInt8, (Op.bytesLess x y && Op.bytesLess y x) = false ∧ (Op.bytesLess x y || Op.bytesLess y x) = !decide (x = y)
 | [], [] => by simp [Op.bytesLess]
 | [], b :: y => by simp [Op.bytesLess]
 | a :: x, [] => by simp [Op.bytesLess]
 | a :: x, b :: y => by
  obtain ⟨h1, h2⟩ := bytesLess_tri x y
  simp only [Op.bytesLess]
  by_cases h : a = b
  ·subst h
   simp only [show (a < a) = False from eq_false (UInt8.lt_irrefl a), zH, Bool.false_or, BEq.rfl, zG1, h1, h2, List.cons.injEq, true_and]
  ·have hn : ¬ b = a := fun e => h e.symm
   have e1 : (a == b) = false := by simp [h]
   have e2 : (b == a) = false := by simp [hn]
   simp only [e1, e2, Bool.false_and, Bool.or_false, List.cons.injEq, h, false_and, zH, zU]
   rcases UInt8.lt_or_lt_of_ne h with g | g
   ·have : ¬ b < a := UInt8.lt_asymm g
    simp [g, this]
   ·have : ¬ a < b := UInt8.lt_asymm g
    simp [g, this]
theorem less_tri {x y : T_Val} (hx : cValOk x.1 x.2.1 x.2.2 = true) (hy : cValOk y.1 y.2.1 y.2.2 = true) : (cValLess x y && cValLess y x) = false ∧ (cValLess x y || cValLess y x) = !decide (x = y) := by
 obtain ⟨a, b, s⟩ := x; obtain ⟨c, d, t⟩ := y
 simp only [cValLess, hx, hy, zG1]
 by_cases h1 : a = c
 ·subst h1
  by_cases h2 : b = d
  ·subst h2
   simp only [if_true]
   obtain ⟨g1, g2⟩ := bytesLess_tri s.toList t.toList
   refine ⟨g1, ?_⟩
   rw [g2]
   simp [text_eq']
  ·simp only [if_true, if_neg h2, if_neg (fun e : d = b => h2 e.symm)]
   have : ¬ ((a, (b, s)) : T_Val) = (a, (d, t)) := by simp [h2]
   rw [zK this]
   by_cases h3 : b < d
   ·simp [h3]; omega
   ·have : d < b := by omega
    simp [h3, this]
 ·simp only [if_neg h1, if_neg (fun e : c = a => h1 e.symm)]
  have : ¬ ((a, (b, s)) : T_Val) = (c, (d, t)) := by simp [h1]
  rw [zK this]
  by_cases h3 : a < c
  ·simp [h3]; omega
  ·have : c < a := by omega
   simp [h3, this]
def foldI {α S : Type} (f : Nat → α → S → S) : Nat → List α → S → S
 | _, [], s => s
 | k, x :: t, s => foldI f (k + 1) t (f k x s)
theorem foldI_loop {α S T : Type} (l : List α) (f : Nat → α → S → S) (L : Nat → Nat → S → T) (R : S → T) (Inv : Nat → S → Prop) (hinv : ∀ k (h : k < l.length) s, Inv k s → Inv (k + 1) (f k l[k] s))
  (hexit : ∀ j s, Inv l.length s → L (j + 1) l.length s = R s) (hstep : ∀ j k s (h : k < l.length), Inv k s → L (j + 1) k s = L j (k + 1) (f k l[k] s)) :
  ∀ (t : List α) (j k : Nat) (s : S), l.drop k = t → k ≤ l.length → t.length < j → Inv k s → L j k s = R (foldI f k t s)
 | [], j + 1, k, s, hd, hk, _, hs => by
  have : k = l.length := by
   rcases zE1 k l.length with h' | h'
   ·rw [zC1 h'] at hd; cases hd
   ·omega
  subst this; rw [hexit _ _ hs]; rfl
 | x :: t, j + 1, k, s, hd, hk, hj, hs => by
  obtain ⟨h2, h3, h4⟩ := drop_cons hd x
  have hx : l[k] = x := by simpa [List.getD, h2] using h3
  rw [hstep j k s h2 hs, foldI_loop l f L R Inv hinv hexit hstep t j (k + 1) _ h4 (by omega) (by simp at hj; omega) (hinv k h2 s hs)]
  simp only [foldI, hx]
theorem foldI_skip {α : Type} (i : Nat) : ∀ (t : List α) (k : Nat) (acc : List α), k ≤ i → foldI (fun k x (s : List α) => if k = i then s else s ++ [x]) k t acc = acc ++ (t.take (i - k) ++ t.drop (i - k + 1))
 | [], k, acc, _ => by simp [foldI]
 | x :: t, k, acc, h => by
  by_cases e : k = i
  ·subst e
   simp only [foldI, if_true, Nat.sub_self, List.take_zero, List.nil_append, List.drop_succ_cons, List.drop_zero]
   have : ∀ (t : List α) (q : Nat) (acc : List α), k < q → foldI (fun j x (s : List α) => if j = k then s else s ++ [x]) q t acc = acc ++ t := by
    intro t
    induction t with
    | nil => intro q acc _; simp [foldI]
    | cons y t ih => intro q acc hq; simp only [foldI, if_neg (show ¬ q = k by omega)]; rw [ih _ _ (by omega)]; simp
   exact this t _ acc (by omega)
  ·simp only [foldI, if_neg e]
   rw [foldI_skip i t (k + 1) _ (by omega)]
   obtain ⟨d, hd⟩ : ∃ d, i - k = d + 1 := ⟨i - k - 1, by omega⟩
   rw [hd, show i - (k + 1) = d by omega]
   simp
theorem foldI_len {α : Type} (i : Nat) : ∀ (k : Nat) (x : α) (s : List α), (if k = i then s else s ++ [x]).length ≤ s.length + 1 := by
 intro k x s; split <;> simp
def without {α : Type} (l : List α) (i : Nat) : List α := l.take i ++ l.drop (i + 1)
theorem without_mem {α : Type} {l : List α} {i : Nat} {x : α} (h : x ∈ without l i) : x ∈ l := by
 rcases zY.mp h with h | h
 ·exact List.mem_of_mem_take h
 ·exact List.mem_of_mem_drop h
theorem without_len {α : Type} (l : List α) (i : Nat) : (without l i).length ≤ l.length := by simp [without]; omega
theorem spec_l03Without_ok : EV fun n => ∀ (l : T_RowS) (i : Nat), sm_RowS 1048576 l → spec_l03Without n l (i : Int) = some (without l i) := (spec_l03Row_ok.and (EV.gt 1048577)).up fun n ⟨h, hn⟩ l i hs => by
 have hl := hs.1
 simp only [spec_l03Without]
 refine (foldI_loop l (fun k x (s : T_RowS) => if k = i then s else s ++ [x]) (fun j k acc => spec_l03Without_L1 n j (i : Int) l (l.length : Int) (k : Int) acc) some (fun k s => s.length ≤ k) (fun k hk s h1 => ?_) (fun j acc _ => ?_) (fun j k acc hk ha => ?_) l n 0 [] rfl (by omega) (by omega) (Nat.le_refl 0)).trans ?_
 ·exact Nat.le_trans (foldI_len i k l[k] s) (by omega)
 ·simp only [spec_l03Without_L1, lt_cast, zP, zH, zA]
 ·have e := h l[k] (hs.2 _ (zL hk)).1
  have r3 : ∀ x : T_ValS, room (acc.length + [x].length) 24 = true := fun x => by simp only [room, zG, zW, zX]; omega
  simp only [spec_l03Without_L1, lt_cast, zD hk, inR_true hk, zE, getD_at hk, zB, wrap_succ hk (by omega), e, zC, r3, int_bne]
  by_cases c : k = i
  ·rw [if_pos c, zD (by omega)]; rfl
  ·rw [if_neg c, zK (by omega)]; rfl
 ·rw [foldI_skip i l 0 [] (Nat.zero_le _)]; rfl
theorem del1 {α : Type} {l : List α} {i : Nat} (h : i < l.length) : delF l (i : Int) ((i + 1 : Nat) : Int) = some (without l i) := by
 unfold delF
 rw [zD (by omega)]; rfl
def cRowOut (x : T_Table) (l : T_RowS) (key : T_ValS) : T_RowS × (Int × Unit) :=
 if cRowsOk x l = true then (if cKeyOk x key = true ∧ 0 ≤ idx (fun r => decide (cKeyOf x.2.1 x.2.2 r = key)) l then (without l (idx (fun r => decide (cKeyOf x.2.1 x.2.2 r = key)) l).toNat, (0, ())) else ([], (5, ()))) else ([], (1, ()))
theorem spec_RowOut_ok : EV fun n => ∀ (x : T_Table) (l : T_RowS) (key : T_ValS), sm_Table 1048576 x → sm_RowS 1048576 l → spec_RowOut n x.1 x.2.1 x.2.2 l key = some (cRowOut x l key) := (spec_RowsOk_ok.and (spec_RowAt_ok.and (spec_KeyOk_ok.and spec_l03Without_ok))).up fun n ⟨h1, h2, h3, h4⟩ x l key hs hl => by
 simp only [spec_RowOut, h1 x l hs hl.1, h2 x l key hs hl.1, h3 x key hs, zC, cRowOut, cRowAt]
 cases hr : cRowsOk x l
 ·simp
 simp only [zT, zA, if_true]
 cases hk : cKeyOk x key
 ·simp
 obtain ⟨b1, b2⟩ := idx_lt (fun r : T_Row => decide (cKeyOf x.2.1 x.2.2 r = key)) l
 generalize idx (fun r : T_Row => decide (cKeyOf x.2.1 x.2.2 r = key)) l = i at b1 b2
 by_cases c : i < 0
 ·rw [zD c, if_neg (fun h => absurd h.2 (by omega))]; rfl
 ·obtain ⟨i, rfl⟩ := Int.eq_ofNat_of_zero_le (show 0 ≤ i by omega)
  rw [zK c, if_pos ⟨rfl, by omega⟩]
  simp only [zT, zA, h4 l i hl, zC, zE]
theorem rows_lens {x : T_Table} {l : T_RowS} (h : cRowsOk x l = true) : ∀ r ∈ l, r.length = x.2.1.length := fun r hr => rowIn_len ((rows_in h).2.2 r hr)
theorem impl_RowOut_ok : EV fun n => ∀ (x : T_Table) (l : T_RowS) (key : T_ValS), sm_Table 1048576 x → sm_RowS 1048576 l → impl_RowOut n x.1 x.2.1 x.2.2 l key = some (cRowOut x l key) := (impl_RowsOk_ok.and (impl_rowAt_ok.and (impl_KeyOk_ok.and (impl_copyRows_ok.and (EV.gt 0))))).up fun n ⟨h1, h2, h3, h4, hn⟩ x l key hs hl => by
 obtain ⟨m, rfl⟩ : ∃ m, n = m + 1 := ⟨n - 1, by omega⟩
 simp only [impl_RowOut, h1 x l hs hl.1, h3 x key hs, zC, cRowOut]
 cases hr : cRowsOk x l
 ·simp
 simp only [zT, zA, if_true, h2 x l key hs hl.1 (rows_in hr).1 (rows_lens hr), zC, h4 l hl, slices_Delete_impl_Row_impl_Row]
 cases hk : cKeyOk x key
 ·simp
 obtain ⟨b1, b2⟩ := idx_lt (fun r : T_Row => decide (cKeyOf x.2.1 x.2.2 r = key)) l
 generalize idx (fun r : T_Row => decide (cKeyOf x.2.1 x.2.2 r = key)) l = i at b1 b2
 have := hl.1
 by_cases c : i < 0
 ·rw [zD c, if_neg (fun h => absurd h.2 (by omega))]; rfl
 ·obtain ⟨i, rfl⟩ := Int.eq_ofNat_of_zero_le (show 0 ≤ i by omega)
  rw [zK c, if_pos ⟨rfl, by omega⟩]
  have hi : i < l.length := by omega
  simp only [zT, zA, zC, zE, wrap_succ hi (by omega), del1 hi]
theorem smr_nil : sm_RowS 1048576 [] := ⟨Nat.zero_le _, by simp⟩
theorem sm_without {l : T_RowS} {i : Nat} (h : sm_RowS 1048576 l) : sm_RowS 1048576 (without l i) := ⟨Nat.le_trans (without_len l i) h.1, fun r hr => h.2 r (without_mem hr)⟩
theorem same_RowOut : EV fun n => ∀ (x0 : T_Table) (x1 : T_RowS) (x2 : T_ValS), sm_Table 1048576 x0 → sm_RowS 1048576 x1 → sm_ValS 1048576 x2 → ∃ r, spec_RowOut n x0.1 x0.2.1 x0.2.2 x1 x2 = some r ∧ impl_RowOut n x0.1 x0.2.1 x0.2.2 x1 x2 = some r ∧ sm_RowS 1048576 r.1 :=
 (spec_RowOut_ok.and impl_RowOut_ok).mono fun n ⟨h1, h2⟩ x l key hx hl _ => ⟨_, h1 x l key hx hl, h2 x l key hx hl, by
  unfold cRowOut
  split
  ·split
   ·exact sm_without hl
   ·exact smr_nil
  ·exact smr_nil⟩
theorem bytesLess_trans : ∀ {x y z : List UInt8}, Op.bytesLess x y = true → Op.bytesLess y z = true → Op.bytesLess x z = true
 | _, [], _, h, _ => by cases ‹List UInt8› <;> simp [Op.bytesLess] at h
 | _, _ :: _, [], _, h => by simp [Op.bytesLess] at h
 | [], _ :: _, _ :: _, _, _ => by simp [Op.bytesLess]
 | a :: x, b :: y, c :: z, h1, h2 => by
  simp only [Op.bytesLess, Bool.or_eq_true, zJ, zG, beq_iff_eq] at h1 h2 ⊢
  rcases h1 with h1 | ⟨rfl, h1⟩
  ·rcases h2 with h2 | ⟨rfl, _⟩
   ·exact .inl (UInt8.lt_trans h1 h2)
   ·exact .inl h1
  ·rcases h2 with h2 | ⟨rfl, h2⟩
   ·exact .inl h2
   ·exact .inr ⟨rfl, bytesLess_trans h1 h2⟩
theorem valLess_trans {x y z : T_Val} (h1 : cValLess x y = true) (h2 : cValLess y z = true) : cValLess x z = true := by
 obtain ⟨a, b, s⟩ := x; obtain ⟨c, d, t⟩ := y; obtain ⟨e, f, u⟩ := z
 simp only [cValLess, zJ] at h1 h2 ⊢
 refine ⟨⟨h1.1.1, h2.1.2⟩, ?_⟩
 have k1 := h1.2; have k2 := h2.2
 by_cases e1 : a = c
 ·subst e1
  rw [if_pos rfl] at k1
  by_cases e2 : a = e
  ·subst e2
   rw [if_pos rfl] at k2 ⊢
   by_cases e3 : b = d
   ·subst e3
    rw [if_pos rfl] at k1
    by_cases e4 : b = f
    ·subst e4; rw [if_pos rfl] at k2 ⊢; exact bytesLess_trans k1 k2
    ·rw [if_neg e4] at k2 ⊢; exact k2
   ·rw [if_neg e3, zG] at k1
    by_cases e4 : d = f
    ·subst e4; rw [if_neg e3]; exact zD k1
    ·rw [if_neg e4, zG] at k2
     rw [if_neg (by omega)]; exact zD (by omega)
  ·rw [if_neg e2] at k2 ⊢; exact k2
 ·rw [if_neg e1, zG] at k1
  by_cases e2 : c = e
  ·subst e2; rw [if_neg e1]; exact zD k1
  ·rw [if_neg e2, zG] at k2
   rw [if_neg (by omega)]; exact zD (by omega)
def keyV (a : T_ValS) : Prop := ∀ v ∈ a, cValOk v.1 v.2.1 v.2.2 = true
theorem keyLess_tri : ∀ {a b : T_ValS}, a.length = b.length → keyV a → keyV b → (cKeyLess a b && cKeyLess b a) = false ∧ (cKeyLess a b || cKeyLess b a) = !decide (a = b)
 | [], [], _, _, _ => by simp [cKeyLess]
 | [], _ :: _, h, _, _ => by simp at h
 | _ :: _, [], h, _, _ => by simp at h
 | x :: s, y :: t, h, ha, hb => by
  have ih := keyLess_tri (a := s) (b := t) (by simpa using h) (fun v hv => ha v (zF _ hv)) (fun v hv => hb v (zF _ hv))
  have hv := less_tri (ha x (zM ..)) (hb y (zM ..))
  simp only [cKeyLess]
  by_cases e : x = y
  ·subst e; simp only [if_true, List.cons.injEq, true_and]; exact ih
  ·rw [if_neg e, if_neg (fun h => e h.symm)]
   refine ⟨hv.1, ?_⟩
   rw [hv.2, zK e, zK (fun h => e (List.cons.inj h).1)]
theorem keyLess_trans : ∀ {a b c : T_ValS}, a.length = b.length → b.length = c.length → keyV a → keyV b → keyV c → cKeyLess a b = true → cKeyLess b c = true → cKeyLess a c = true
 | [], [], _, _, _, _, _, _, h, _ => by simp [cKeyLess] at h
 | [], _ :: _, _, h, _, _, _, _, _, _ => by simp at h
 | _ :: _, [], _, h, _, _, _, _, _, _ => by simp at h
 | _ :: _, _ :: _, [], _, h, _, _, _, _, _ => by simp at h
 | x :: s, y :: t, z :: u, h1, h2, ha, hb, hc, k1, k2 => by
  simp only [cKeyLess] at k1 k2 ⊢
  by_cases e1 : x = y
  ·subst e1
   rw [if_pos rfl] at k1
   by_cases e2 : x = z
   ·subst e2
    rw [if_pos rfl] at k2 ⊢
    exact keyLess_trans (by simpa using h1) (by simpa using h2) (fun v hv => ha v (zF _ hv)) (fun v hv => hb v (zF _ hv)) (fun v hv => hc v (zF _ hv)) k1 k2
   ·rw [if_neg e2] at k2 ⊢; exact k2
  ·rw [if_neg e1] at k1
   by_cases e2 : y = z
   ·subst e2; rw [if_neg e1]; exact k1
   ·rw [if_neg e2] at k2
    have k3 := valLess_trans k1 k2
    by_cases e3 : x = z
    ·subst e3
     have := (less_tri (ha x (zM ..)) (hb y (zM ..))).1
     rw [k1, k2] at this; cases this
    ·rw [if_neg e3]; exact k3
theorem keyOf_valid {x : T_Table} (ht : cTableOk x = true) {r : T_Row} (hr : cRowIn x.2.1 r = true) : keyV (cKeyOf x.2.1 x.2.2 r) := by
 intro v hv
 simp only [cKeyOf, List.mem_map] at hv
 obtain ⟨key, hk, rfl⟩ := hv
 obtain ⟨h1, h2, _⟩ := (table_facts ht).1 key hk
 simp only [cRowIn, zJ, zG] at hr
 have hi : (cColAt x.2.1 key).toNat < x.2.1.length := by omega
 have := (allFrom_iff _ _ _).mp hr.2 _ hi
 simp only [zS, fitsS] at this
 generalize r.getD (cColAt x.2.1 key).toNat null = v at this
 revert this
 cases cValOk v.1 v.2.1 v.2.2 <;> simp
theorem while_loop {α T : Type} (p : α → Bool) (l : List α) (L : Nat → Nat → T) (R : Nat → T) (hexit : ∀ j, L (j + 1) l.length = R l.length) (hstep : ∀ j k (h : k < l.length), L (j + 1) k = if p l[k] = true then L j (k + 1) else R k) :
  ∀ (t : List α) (j k : Nat), l.drop k = t → k ≤ l.length → t.length < j → L j k = R (k + (t.takeWhile p).length)
 | [], j + 1, k, hd, hk, _ => by
  have : k = l.length := by
   rcases zE1 k l.length with h' | h'
   ·rw [zC1 h'] at hd; cases hd
   ·omega
  subst this; rw [hexit]; rfl
 | x :: t, j + 1, k, hd, hk, hj => by
  obtain ⟨h2, h3, h4⟩ := drop_cons hd x
  have hx : l[k] = x := by simpa [List.getD, h2] using h3
  rw [hstep j k h2, hx]
  by_cases hp : p x = true
  ·rw [if_pos hp, while_loop p l L R hexit hstep t j (k + 1) h4 (by omega) (by simp at hj; omega), List.takeWhile_cons_of_pos hp]
   simp only [zW]; congr 1; omega
  ·rw [if_neg hp, List.takeWhile_cons_of_neg hp]; rfl
theorem takeWhile_take {α : Type} (p : α → Bool) : ∀ l : List α, l.take (l.takeWhile p).length = l.takeWhile p ∧ l.drop (l.takeWhile p).length = l.dropWhile p
 | [] => by simp
 | x :: t => by
  obtain ⟨h1, h2⟩ := takeWhile_take p t
  by_cases hp : p x = true
  ·simp [List.takeWhile_cons_of_pos hp, List.dropWhile_cons_of_pos hp, h1, h2]
  ·simp [List.takeWhile_cons_of_neg hp, List.dropWhile_cons_of_neg hp]
theorem takeWhile_le {α : Type} (p : α → Bool) (l : List α) : (l.takeWhile p).length ≤ l.length := by
 have := congrArg List.length (takeWhile_take p l).1
 rw [List.length_take] at this; omega
def lessR (x : T_Table) (r y : T_Row) : Bool := cKeyLess (cKeyOf x.2.1 x.2.2 y) (cKeyOf x.2.1 x.2.2 r)
def cPlaced (x : T_Table) (l : T_RowS) (r : T_Row) : T_RowS := l.takeWhile (lessR x r) ++ [r] ++ l.dropWhile (lessR x r)
theorem ins1 {α : Type} {l : List α} {i : Nat} {r : α} (h : i ≤ l.length) (hl : l.length ≤ 1048576) : insF 24 l (i : Int) [r] = some (l.take i ++ [r] ++ l.drop i) := by
 unfold insF
 rw [zD ⟨rfl, by omega, by omega⟩]
 have : room (l.length + 1) 24 = true := by simp only [room, zG]; omega
 rw [this]; rfl
theorem bindS {α : Type} (o : Option α) : (o.bind fun r => some r) = o := by cases o <;> rfl
theorem impl_placed_ok : EV fun n => ∀ (x : T_Table) (l : T_RowS) (r : T_Row), sm_Table 1048576 x → sm_RowS 1048576 l → r.length ≤ 1048576 → cTableOk x = true → (∀ y ∈ l, y.length = x.2.1.length) → r.length = x.2.1.length → impl_placed n x.1 x.2.1 x.2.2 l r = some (cPlaced x l r) :=
 (impl_keyOf_ok.and (impl_KeyLess_ok.and (impl_copyRows_ok.and (impl_copyVals_ok.and (EV.gt 1048577))))).up fun n ⟨h1, h2, h3, h4, hn⟩ x l r hs hl hr ht hy hr2 => by
 have hll := hl.1
 obtain ⟨m, rfl⟩ : ∃ m, n = m + 1 := ⟨n - 1, by omega⟩
 simp only [impl_placed]
 refine (while_loop (lessR x r) l (fun j k => impl_placed_L1 (m + 1) j l (k : Int) x.1 x.2.1 x.2.2 r) (fun k => insF 24 l (k : Int) [r]) (fun j => ?_) (fun j k hk => ?_) l (m + 1) 0 rfl (by omega) (by omega)).trans ?_
 ·simp only [impl_placed_L1, lt_cast, zP, zH, zA, h3 l hl, h4 r hr, zC, slices_Insert_impl_Row_impl_Row, bindS]
 ·have e := h2 (cKeyOf x.2.1 x.2.2 l[k]) (cKeyOf x.2.1 x.2.2 r) (by rw [keyOf_len]; exact hs.2.2.1)
  simp only [impl_placed_L1, lt_cast, zD hk, inR_true hk, zE, getD_at hk, zB, wrap_succ hk (by omega), h1 x l[k] hs ht (hy _ (zL hk)), h1 x r hs ht hr2, e, zC, h3 l hl, h4 r hr, slices_Insert_impl_Row_impl_Row, bindS, lessR]
  exact bif_step' _ _
 ·have := takeWhile_le (lessR x r) l
  rw [zS, ins1 this hll, (takeWhile_take _ _).1, (takeWhile_take _ _).2]; rfl
def layStep (x : T_Table) (r : T_Row) (y : T_Row) (s : Bool × T_RowS) : Bool × T_RowS := if s.1 = true then (true, s.2 ++ [y]) else if cKeyLess (cKeyOf x.2.1 x.2.2 r) (cKeyOf x.2.1 x.2.2 y) = true then (true, s.2 ++ [r] ++ [y]) else (false, s.2 ++ [y])
def layEnd (r : T_Row) (s : Bool × T_RowS) : T_RowS := if s.1 = true then s.2 else s.2 ++ [r]
theorem lay_done (x : T_Table) (r : T_Row) : ∀ (t : T_RowS) (k : Nat) (acc : T_RowS), foldI (fun _ => layStep x r) k t (true, acc) = (true, acc ++ t)
 | [], k, acc => by simp [foldI]
 | y :: t, k, acc => by
  simp only [foldI, layStep, if_true]
  rw [lay_done x r t]; simp
theorem lay_all (x : T_Table) (r : T_Row) : ∀ (t : T_RowS) (k : Nat) (acc : T_RowS), (∀ y ∈ t, cKeyLess (cKeyOf x.2.1 x.2.2 r) (cKeyOf x.2.1 x.2.2 y) = !lessR x r y) → layEnd r (foldI (fun _ => layStep x r) k t (false, acc)) = acc ++ cPlaced x t r
 | [], k, acc, _ => by simp [foldI, layEnd, cPlaced]
 | y :: t, k, acc, h => by
  have hy := h y (zM ..)
  simp only [foldI, layStep, Bool.false_eq_true, if_false]
  cases hp : lessR x r y
  ·rw [hp] at hy
   rw [if_pos (by simpa using hy), lay_done]
   simp [layEnd, cPlaced, List.takeWhile_cons_of_neg (show ¬ lessR x r y = true by simp [hp]), List.dropWhile_cons_of_neg (show ¬ lessR x r y = true by simp [hp])]
  ·rw [hp] at hy
   rw [if_neg (by simp [hy]), lay_all x r t _ _ fun z hz => h z (zF _ hz)]
   simp [cPlaced, List.takeWhile_cons_of_pos hp, List.dropWhile_cons_of_pos hp]
theorem spec_l03Lay_ok : EV fun n => ∀ (x : T_Table) (l : T_RowS) (r : T_Row), sm_Table 1048576 x → sm_RowS 1048576 l → r.length ≤ 1048576 → cTableOk x = true → (∀ y ∈ l, y.length = x.2.1.length) → r.length = x.2.1.length →
  spec_l03Lay n x.1 x.2.1 x.2.2 l r = some (layEnd r (foldI (fun _ => layStep x r) 0 l (false, []))) := (spec_l03Key_ok.and (spec_KeyLess_ok.and (spec_l03Row_ok.and (EV.gt 1048577)))).up fun n ⟨h1, h2, h3, hn⟩ x l r hs hl hr ht hy hr2 => by
 have hll := hl.1
 simp only [spec_l03Lay]
 refine foldI_loop l (fun _ => layStep x r) (fun j k (s : Bool × T_RowS) => spec_l03Lay_L1 n j s.1 l (l.length : Int) (k : Int) x.1 x.2.1 x.2.2 r s.2) (fun s => some (layEnd r s)) (fun k s => (s.1 = false → s.2.length ≤ k) ∧ s.2.length ≤ k + 1) (fun k hk s h1 => ?_) (fun j s h => ?_) (fun j k s hk ha => ?_) l n 0 (false, []) rfl (by omega) (by omega) ⟨fun _ => Nat.le_refl 0, Nat.zero_le _⟩
 ·obtain ⟨b, acc⟩ := s
  obtain ⟨h1, h2⟩ := h1
  cases b
  ·have := h1 rfl
   simp only [layStep, Bool.false_eq_true, if_false]
   split
   ·refine ⟨fun h => (by cases h), ?_⟩
    simp; dsimp only at this; omega
   ·refine ⟨fun _ => ?_, ?_⟩ <;> (simp; dsimp only at this; omega)
  ·simp only [layStep, if_true]
   refine ⟨fun h => (by cases h), ?_⟩
   simp; dsimp only at h2; omega
 ·obtain ⟨h0, h⟩ := h
  have r3 : room (s.2.length + [r].length) 24 = true := by simp only [room, zG, zW, zX]; omega
  simp only [spec_l03Lay_L1, lt_cast, zP, zH, zA, h3 r hr, zC, r3, zB, layEnd]
  cases s.1 <;> rfl
 ·obtain ⟨_, ha⟩ := ha
  have e := h3 l[k] (hl.2 _ (zL hk)).1
  have e2 := h2 (cKeyOf x.2.1 x.2.2 r) (cKeyOf x.2.1 x.2.2 l[k]) (by rw [keyOf_len]; exact hs.2.2.1)
  have r3 : ∀ y : T_ValS, room (s.2.length + [y].length) 24 = true := fun y => by simp only [room, zG, zW, zX]; omega
  have r4 : ∀ y z : T_ValS, room ((s.2 ++ [y]).length + [z].length) 24 = true := fun y z => by simp only [room, zG, List.length_append, zW, zX]; omega
  simp only [spec_l03Lay_L1, lt_cast, zD hk, inR_true hk, zE, getD_at hk, zB, wrap_succ hk (by omega), e, h3 r hr, h1 x r hs ht hr2, h1 x l[k] hs ht (hy _ (zL hk)), e2, zC, r3, r4, layStep]
  obtain ⟨b, acc⟩ := s
  cases b
  ·cases cKeyLess (cKeyOf x.2.1 x.2.2 r) (cKeyOf x.2.1 x.2.2 l[k]) <;> rfl
  ·rfl
theorem idx_none {α : Type} (p : α → Bool) : ∀ (l : List α) (k : Nat), idxFrom p l k = -1 ↔ ∀ y ∈ l, p y = false
 | [], k => by simp [idxFrom]
 | x :: t, k => by
  simp only [idxFrom, List.mem_cons, forall_eq_or_imp]
  by_cases h : p x = true
  ·rw [if_pos h]
   constructor
   ·intro e; omega
   ·intro e; rw [e.1] at h; cases h
  ·rw [if_neg h, idx_none p t (k + 1)]
   simp at h
   simp [h]
theorem idx_neg {α : Type} (p : α → Bool) (l : List α) : ¬ 0 ≤ idx p l ↔ ∀ y ∈ l, p y = false := by
 rw [← idx_none p l 0]
 have := (idx_lt p l).1
 unfold idx at this ⊢
 omega
theorem lay_placed {x : T_Table} {l : T_RowS} {r : T_Row} (ht : cTableOk x = true) (hl : ∀ y ∈ l, cRowIn x.2.1 y = true) (hr : cRowIn x.2.1 r = true) (hk : ∀ y ∈ l, cKeyOf x.2.1 x.2.2 y ≠ cKeyOf x.2.1 x.2.2 r) :
  layEnd r (foldI (fun _ => layStep x r) 0 l (false, [])) = cPlaced x l r := by
 rw [lay_all x r l 0 [] fun y hy => ?_]
 ·rfl
 ·obtain ⟨h1, h2⟩ := keyLess_tri (a := cKeyOf x.2.1 x.2.2 y) (b := cKeyOf x.2.1 x.2.2 r) (by rw [keyOf_len, keyOf_len]) (keyOf_valid ht (hl y hy)) (keyOf_valid ht hr)
  rw [zK (hk y hy)] at h2
  unfold lessR
  revert h1 h2
  cases cKeyLess (cKeyOf x.2.1 x.2.2 y) (cKeyOf x.2.1 x.2.2 r) <;> cases cKeyLess (cKeyOf x.2.1 x.2.2 r) (cKeyOf x.2.1 x.2.2 y) <;> simp
theorem placed_mem {x : T_Table} {l : T_RowS} {r y : T_Row} (h : y ∈ cPlaced x l r) : y ∈ l ∨ y = r := by
 unfold cPlaced at h
 simp only [zY, zF1] at h
 rcases h with (h | h) | h
 ·exact .inl (by rw [← List.takeWhile_append_dropWhile (p := lessR x r) (l := l)]; exact zZ _ h)
 ·exact .inr h
 ·exact .inl (by rw [← List.takeWhile_append_dropWhile (p := lessR x r) (l := l)]; exact zA1 _ h)
theorem placed_len (x : T_Table) (l : T_RowS) (r : T_Row) : (cPlaced x l r).length = l.length + 1 := by
 have := congrArg List.length (List.takeWhile_append_dropWhile (p := lessR x r) (l := l))
 simp only [List.length_append] at this
 simp [cPlaced]; omega
theorem sm_placed {x : T_Table} {l : T_RowS} {r : T_Row} (hl : sm_RowS 1048576 l) (h60 : l.length ≤ 60) (hr : sm_Row 1048576 r) : sm_RowS 1048576 (cPlaced x l r) :=
 ⟨by rw [placed_len]; omega, fun y hy => by
  rcases placed_mem hy with hy | rfl
  ·exact hl.2 y hy
  ·exact hr⟩
def keyIdx (x : T_Table) (l : T_RowS) (key : T_ValS) : Int := idx (fun r => decide (cKeyOf x.2.1 x.2.2 r = key)) l
def cRowPut (x : T_Table) (l : T_RowS) (r : T_Row) : T_RowS × (Int × Unit) :=
 if cRowsOk x l = true then (if cRowIn x.2.1 r = true then (if 0 ≤ keyIdx x l (cKeyOf x.2.1 x.2.2 r) then ([], (3, ())) else if l.length = 60 then ([], (4, ())) else (cPlaced x l r, (0, ()))) else ([], (2, ()))) else ([], (1, ()))
theorem keys_ne {x : T_Table} {l : T_RowS} {key : T_ValS} (h : ¬ 0 ≤ keyIdx x l key) : ∀ y ∈ l, cKeyOf x.2.1 x.2.2 y ≠ key := fun y hy e => by
 have := (idx_neg _ _).mp h y hy
 rw [zD e] at this; cases this
theorem spec_RowPut_ok : EV fun n => ∀ (x : T_Table) (l : T_RowS) (r : T_Row), sm_Table 1048576 x → sm_RowS 1048576 l → r.length ≤ 1048576 → spec_RowPut n x.1 x.2.1 x.2.2 l r = some (cRowPut x l r) := (spec_RowsOk_ok.and (spec_RowOk_ok.and (spec_l03Key_ok.and (spec_RowAt_ok.and spec_l03Lay_ok)))).up fun n ⟨h1, h2, h3, h4, h5⟩ x l r hs hl hrl => by
 simp only [spec_RowPut, h1 x l hs hl.1, h2 x r hs, zC, cRowPut, int_beq]
 cases hr : cRowsOk x l
 ·simp
 have ht := (rows_in hr).1
 simp only [zT, zA, if_true, ht, zG1]
 cases hi : cRowIn x.2.1 r
 ·simp
 simp only [zT, zA, if_true, h3 x r hs ht (rowIn_len hi), h4 x l _ hs hl.1, zC, cRowAt, hr]
 rw [show idx (fun y => decide (cKeyOf x.2.1 x.2.2 y = cKeyOf x.2.1 x.2.2 r)) l = keyIdx x l (cKeyOf x.2.1 x.2.2 r) from rfl]
 by_cases c : 0 ≤ keyIdx x l (cKeyOf x.2.1 x.2.2 r)
 ·rw [zD c, if_pos c]; rfl
 ·rw [zK c, if_neg c]
  by_cases c2 : l.length = 60
  ·rw [zD (by omega), if_pos c2]; rfl
  ·rw [zK (by omega), if_neg c2, h5 x l r hs hl hrl ht (rows_lens hr) (rowIn_len hi), lay_placed ht (rows_in hr).2.2 hi (keys_ne c)]; rfl
theorem impl_RowPut_ok : EV fun n => ∀ (x : T_Table) (l : T_RowS) (r : T_Row), sm_Table 1048576 x → sm_RowS 1048576 l → r.length ≤ 1048576 → impl_RowPut n x.1 x.2.1 x.2.2 l r = some (cRowPut x l r) := (impl_RowsOk_ok.and (impl_rowOk_ok.and (impl_keyOf_ok.and (impl_rowAt_ok.and impl_placed_ok)))).up fun n ⟨h1, h2, h3, h4, h5⟩ x l r hs hl hrl => by
 simp only [impl_RowPut, h1 x l hs hl.1, zC, cRowPut, int_beq]
 cases hr : cRowsOk x l
 ·simp
 have ht := (rows_in hr).1
 simp only [zT, zA, if_true, h2 x r hs ht, zC]
 cases hi : cRowIn x.2.1 r
 ·simp
 simp only [zT, zA, if_true, h3 x r hs ht (rowIn_len hi), h4 x l _ hs hl.1 ht (rows_lens hr), zC]
 rw [show idx (fun y => decide (cKeyOf x.2.1 x.2.2 y = cKeyOf x.2.1 x.2.2 r)) l = keyIdx x l (cKeyOf x.2.1 x.2.2 r) from rfl]
 by_cases c : 0 ≤ keyIdx x l (cKeyOf x.2.1 x.2.2 r)
 ·rw [zD c, if_pos c]; rfl
 ·rw [zK c, if_neg c]
  by_cases c2 : l.length = 60
  ·rw [zD (by omega), if_pos c2]; rfl
  ·rw [zK (by omega), if_neg c2, h5 x l r hs hl hrl ht (rows_lens hr) (rowIn_len hi)]; rfl
theorem same_RowPut : EV fun n => ∀ (x0 : T_Table) (x1 : T_RowS) (x2 : T_Row), sm_Table 1048576 x0 → sm_RowS 1048576 x1 → sm_Row 1048576 x2 → ∃ r, spec_RowPut n x0.1 x0.2.1 x0.2.2 x1 x2 = some r ∧ impl_RowPut n x0.1 x0.2.1 x0.2.2 x1 x2 = some r ∧ sm_RowS 1048576 r.1 :=
 (spec_RowPut_ok.and impl_RowPut_ok).mono fun n ⟨h1, h2⟩ x l r hx hl hr => ⟨_, h1 x l r hx hl hr.1, h2 x l r hx hl hr.1, by
  unfold cRowPut
  split
  ·rename_i h
   split
   ·split
    ·exact smr_nil
    ·split
     ·exact smr_nil
     ·exact sm_placed hl (rows_in h).2.1 hr
   ·exact smr_nil
  ·exact smr_nil⟩
theorem rows_sorted {x : T_Table} {l : T_RowS} (h : cRowsOk x l = true) : ∀ i j (hi : i < j) (hj : j < l.length), cKeyLess (cKeyOf x.2.1 x.2.2 l[i]) (cKeyOf x.2.1 x.2.2 l[j]) = true := by
 obtain ⟨ht, _, hin⟩ := rows_in h
 simp only [cRowsOk, zJ] at h
 have hstep : ∀ k (hk : k + 1 < l.length), cKeyLess (cKeyOf x.2.1 x.2.2 l[k]) (cKeyOf x.2.1 x.2.2 l[k + 1]) = true := fun k hk => by
  have := (allFrom_iff _ _ _).mp h.2 (k + 1) hk
  simp only [zS, cRowsStep, zJ, Nat.add_sub_cancel, getD_at (show k < l.length by omega)] at this
  simpa using this.2
 intro i j hi
 induction j with
 | zero => omega
 | succ j ih =>
  intro hj
  by_cases e : i = j
  ·subst e; exact hstep i hj
  ·have k1 := ih (by omega) (by omega)
   have hv : ∀ q (hq : q < l.length), keyV (cKeyOf x.2.1 x.2.2 l[q]) := fun q hq => keyOf_valid ht (hin _ (zL hq))
   exact keyLess_trans (by rw [keyOf_len, keyOf_len]) (by rw [keyOf_len, keyOf_len]) (hv _ _) (hv _ _) (hv _ _) k1 (hstep j hj)
theorem rows_of_sorted {x : T_Table} {l : T_RowS} (ht : cTableOk x = true) (hl : l.length ≤ 60) (hin : ∀ r ∈ l, cRowIn x.2.1 r = true) (hs : ∀ k (hk : k + 1 < l.length), cKeyLess (cKeyOf x.2.1 x.2.2 l[k]) (cKeyOf x.2.1 x.2.2 l[k + 1]) = true) : cRowsOk x l = true := by
 simp only [cRowsOk, ht, zD hl, zG1]
 refine (allFrom_iff _ _ _).mpr fun i hi => ?_
 simp only [zS, cRowsStep, hin _ (zL hi), zG1, Bool.or_eq_true, zG]
 cases i with
 | zero => exact .inl rfl
 | succ i =>
  right
  rw [Nat.add_sub_cancel, getD_at (show i < l.length by omega)]
  exact hs i hi
theorem without_get {α : Type} {l : List α} {i j : Nat} (hj : j < (without l i).length) : ∃ (h : (if j < i then j else j + 1) < l.length), (without l i)[j] = l[(if j < i then j else j + 1)] := by
 have hl : (without l i).length = min i l.length + (l.length - (i + 1)) := by simp [without]
 by_cases c : j < i
 ·rw [if_pos c]
  refine ⟨by omega, ?_⟩
  simp only [without]
  rw [List.getElem_append_left (by simp; omega), List.getElem_take]
 ·rw [if_neg c]
  refine ⟨by omega, ?_⟩
  simp only [without]
  rw [List.getElem_append_right (by simp; omega), List.getElem_drop]
  congr 1; simp; omega
theorem rows_without {x : T_Table} {l : T_RowS} (h : cRowsOk x l = true) (i : Nat) : cRowsOk x (without l i) = true := by
 obtain ⟨ht, hlen, hin⟩ := rows_in h
 refine rows_of_sorted ht (Nat.le_trans (without_len l i) hlen) (fun r hr => hin r (without_mem hr)) fun k hk => ?_
 obtain ⟨a1, a2⟩ := without_get (l := l) (i := i) (j := k) (by omega)
 obtain ⟨b1, b2⟩ := without_get (l := l) (i := i) (j := k + 1) hk
 rw [a2, b2]
 refine rows_sorted h _ _ ?_ b1
 split <;> split <;> omega
theorem keys_inj {x : T_Table} {l : T_RowS} (h : cRowsOk x l = true) {i j : Nat} (hi : i < l.length) (hj : j < l.length) (e : cKeyOf x.2.1 x.2.2 l[i] = cKeyOf x.2.1 x.2.2 l[j]) : i = j := by
 have irr : ∀ q (hq : q < l.length), cKeyLess (cKeyOf x.2.1 x.2.2 l[q]) (cKeyOf x.2.1 x.2.2 l[q]) = false := fun q hq => by
  obtain ⟨ht, _, hin⟩ := rows_in h
  have := (keyLess_tri (a := cKeyOf x.2.1 x.2.2 l[q]) (b := cKeyOf x.2.1 x.2.2 l[q]) rfl (keyOf_valid ht (hin _ (zL hq))) (keyOf_valid ht (hin _ (zL hq)))).1
  simpa using this
 rcases Nat.lt_trichotomy i j with c | c | c
 ·have := rows_sorted h i j c hj; rw [e, irr j hj] at this; cases this
 ·exact c
 ·have := rows_sorted h j i c hi; rw [e, irr j hj] at this; cases this
theorem idx_at {α : Type} (p : α → Bool) : ∀ (l : List α) (k i : Nat), idxFrom p l k = ((k + i : Nat) : Int) → ∃ h : i < l.length, p l[i] = true
 | [], k, i, h => by simp only [idxFrom] at h; omega
 | x :: t, k, i, h => by
  simp only [idxFrom] at h
  split at h
  ·rename_i hp
   obtain rfl : i = 0 := by omega
   exact ⟨by simp, hp⟩
  ·rcases idx_bound p t (k + 1) with e | e
   ·omega
   ·obtain ⟨i, rfl⟩ : ∃ i', i = i' + 1 := ⟨i - 1, by omega⟩
    obtain ⟨h1, h2⟩ := idx_at p t (k + 1) i (by rw [h]; congr 1; omega)
    exact ⟨by simp; exact h1, by simpa using h2⟩
theorem without_mem' {α : Type} {l : List α} {i j : Nat} (hj : j < l.length) (h : j ≠ i) : l[j] ∈ without l i := by
 rcases Nat.lt_or_gt_of_ne h with c | c
 ·exact zZ _ (List.mem_iff_getElem.mpr ⟨j, by simp; omega, by rw [List.getElem_take]⟩)
 ·exact zA1 _ (List.mem_iff_getElem.mpr ⟨j - (i + 1), by simp; omega, by rw [List.getElem_drop]; congr 1; omega⟩)
def cRowSet (x : T_Table) (l : T_RowS) (key : T_ValS) (r : T_Row) : T_RowS × (Int × Unit) :=
 if cRowsOk x l = true then (if cRowIn x.2.1 r = true then (if cKeyOk x key = true ∧ 0 ≤ keyIdx x l key then
  (if 0 ≤ keyIdx x (without l (keyIdx x l key).toNat) (cKeyOf x.2.1 x.2.2 r) then ([], (3, ())) else (cPlaced x (without l (keyIdx x l key).toNat) r, (0, ()))) else ([], (5, ()))) else ([], (2, ()))) else ([], (1, ()))
theorem spec_RowSet_ok : EV fun n => ∀ (x : T_Table) (l : T_RowS) (key : T_ValS) (r : T_Row), sm_Table 1048576 x → sm_RowS 1048576 l → r.length ≤ 1048576 → spec_RowSet n x.1 x.2.1 x.2.2 l key r = some (cRowSet x l key r) := (spec_RowsOk_ok.and (spec_RowOk_ok.and (spec_l03Key_ok.and (spec_RowAt_ok.and (spec_l03Lay_ok.and (spec_KeyOk_ok.and spec_l03Without_ok)))))).up fun n ⟨h1, h2, h3, h4, h5, h6, h7⟩ x l key r hs hl hrl => by
 simp only [spec_RowSet, h1 x l hs hl.1, h2 x r hs, h6 x key hs, h4 x l _ hs hl.1, zC, cRowSet]
 cases hr : cRowsOk x l
 ·simp
 have ht := (rows_in hr).1
 simp only [zT, zA, if_true, ht, zG1, cRowAt, hr]
 cases hi : cRowIn x.2.1 r
 ·simp
 cases hk : cKeyOk x key
 ·simp
 simp only [zT, zA, if_true, true_and]
 rw [show idx (fun y => decide (cKeyOf x.2.1 x.2.2 y = key)) l = keyIdx x l key from rfl]
 obtain ⟨b1, b2⟩ : -1 ≤ keyIdx x l key ∧ keyIdx x l key < (l.length : Int) := idx_lt _ _
 generalize keyIdx x l key = i at b1 b2
 by_cases c : i < 0
 ·rw [zD c, if_neg (by omega)]; rfl
 obtain ⟨i, rfl⟩ := Int.eq_ofNat_of_zero_le (show 0 ≤ i by omega)
 have hw := rows_without hr i
 rw [zK c, if_pos (by omega)]
 simp only [zA, h7 l i hl, zC, h3 x r hs ht (rowIn_len hi), h4 x (without l i) _ hs (sm_without hl).1, cRowAt, hw, if_true, zE]
 rw [show idx (fun y => decide (cKeyOf x.2.1 x.2.2 y = cKeyOf x.2.1 x.2.2 r)) (without l i) = keyIdx x (without l i) (cKeyOf x.2.1 x.2.2 r) from rfl]
 by_cases c2 : 0 ≤ keyIdx x (without l i) (cKeyOf x.2.1 x.2.2 r)
 ·rw [zD c2, if_pos c2]; rfl
 ·rw [zK c2, if_neg c2, h5 x (without l i) r hs (sm_without hl) hrl ht (rows_lens hw) (rowIn_len hi), lay_placed ht (rows_in hw).2.2 hi (keys_ne c2)]; rfl
end Go.Proofs.YtklgakikhdompaaGreat.Ev

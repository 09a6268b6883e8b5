/- Words for the plain laws: what holds from some fuel on; steps of loops over lists; texts as lists of bytes. -/
import Derived.Test.YtalmhjlcjcnidaaEvFnFnUndo
import Derived.Test.YtalmhjlcjcnidaaEvLaw
set_option linter.all false
namespace Go.Proofs.Ytalmhjlcjcnidaa.Ev
open Go
set_option linter.unusedVariables false
/-- from some fuel on -/
def EV (p : Nat → Prop) : Prop := ∃ N, ∀ n, N ≤ n → p n
theorem EV.and {p q : Nat → Prop} (h1 : EV p) (h2 : EV q) : EV fun n => p n ∧ q n := by
  obtain ⟨N, h1⟩ := h1; obtain ⟨M, h2⟩ := h2
  exact ⟨max N M, fun n hn => ⟨h1 n (by omega), h2 n (by omega)⟩⟩
theorem EV.mono {p q : Nat → Prop} (h : EV p) (hpq : ∀ n, p n → q n) : EV q := by
  obtain ⟨N, h⟩ := h; exact ⟨N, fun n hn => hpq n (h n hn)⟩
theorem EV.gt (k : Nat) : EV fun n => k < n := ⟨k + 1, fun n hn => hn⟩
theorem EV.true : EV fun _ => True := ⟨0, fun _ _ => trivial⟩
theorem EV.of {p : Nat → Prop} (h : ∀ n, p n) : EV p := ⟨0, fun n _ => h n⟩
/-- one call deeper -/
theorem EV.up {p q : Nat → Prop} (h : EV p) (hpq : ∀ n, p n → q (n + 1)) : EV q := by
  obtain ⟨N, h⟩ := h
  refine ⟨N + 1, fun n hn => ?_⟩
  obtain ⟨m, rfl⟩ : ∃ m, n = m + 1 := ⟨n - 1, by omega⟩
  exact hpq m (h m (by omega))
theorem EV.all {α : Type} {p : α → Nat → Prop} : ∀ {l : List α}, (∀ x ∈ l, EV (p x)) → EV fun n => ∀ x ∈ l, p x n
  | [], _ => ⟨0, by simp⟩
  | a :: l, h => ((h a (List.mem_cons_self ..)).and (EV.all fun x hx => h x (List.mem_cons_of_mem _ hx))).mono fun n hn x hx => by
      rcases List.mem_cons.mp hx with rfl | hx
      · exact hn.1
      · exact hn.2 x hx
/-! ### whole numbers -/
theorem wrap64 {x : Int} (h1 : -9223372036854775808 ≤ x) (h2 : x ≤ 9223372036854775807) : IntKind.wrap .i64 x = x := by
  have e : IntKind.wrap .i64 x = (if x % 18446744073709551616 ≥ 9223372036854775808 then x % 18446744073709551616 - 18446744073709551616 else x % 18446744073709551616) := by
    simp [IntKind.wrap, IntKind.bits, IntKind.signed]
  rw [e]; split <;> omega
theorem inR_nat {k n : Nat} : inR (k : Int) n = decide (k < n) := by simp [inR]
theorem inR_true {k n : Nat} (h : k < n) : inR (k : Int) n = true := by simp [inR_nat, h]
theorem wrap_succ {k n : Nat} (h : k < n) (hn : n < 4611686018427387904) : IntKind.wrap .i64 ((k : Int) + (1 : Int)) = ((k + 1 : Nat) : Int) := by
  rw [wrap64] <;> omega
theorem lt_cast {k n : Nat} : (decide ((k : Int) < (n : Int))) = decide (k < n) := by simp
theorem getD_at {α : Type} {l : List α} {k : Nat} {z : α} (h : k < l.length) : l.getD k z = l[k] := by simp [List.getD, h]
theorem int_beq (a b : Int) : (a == b) = decide (a = b) := by by_cases h : a = b <;> simp [h]
theorem int_bne (a b : Int) : (a != b) = !decide (a = b) := by by_cases h : a = b <;> simp [bne, h]
/-! ### texts -/
theorem data_len (s : ByteArray) : s.data.toList.length = s.size := by rw [Array.length_toList]; rfl
theorem toList_data (s : ByteArray) : s.toList = s.data.toList := by
  have h : ∀ (n i : Nat) (r : List UInt8), s.size - i = n → ByteArray.toList.loop s i r = r.reverse ++ s.data.toList.drop i := by
    intro n
    induction n with
    | zero =>
      intro i r h
      unfold ByteArray.toList.loop
      rw [if_neg (by omega)]
      have : s.data.toList.length ≤ i := by rw [data_len]; omega
      simp [List.drop_eq_nil_of_le this]
    | succ n ih =>
      intro i r h
      unfold ByteArray.toList.loop
      rw [if_pos (by omega), ih (i + 1) _ (by omega)]
      have hi : i < s.data.toList.length := by rw [data_len]; omega
      rw [List.drop_eq_getElem_cons hi]
      have : s.get! i = s.data.toList[i] := by
        have hi' : i < s.data.size := by simpa using hi
        rw [ByteArray.get!, Array.getElem!_eq_getD]
        simp only [Array.getD, hi', dite_true]
        rfl
      simp [this]
  simpa [ByteArray.toList] using h s.size 0 [] (by omega)
theorem text_ext {a b : ByteArray} (h : a.data.toList = b.data.toList) : a = b := by
  obtain ⟨⟨a⟩⟩ := a; obtain ⟨⟨b⟩⟩ := b; simpa using h
theorem text_eq (a b : ByteArray) : (a.toList == b.toList) = decide (a = b) := by
  rw [toList_data, toList_data]
  by_cases h : a = b
  · subst h; simp
  · have : ¬ a.data.toList = b.data.toList := fun e => h (text_ext e)
    rw [decide_eq_false h]; exact beq_eq_false_iff_ne.mpr this
theorem text_eq' (a b : ByteArray) : (a.toList = b.toList) = (a = b) := by
  rw [toList_data, toList_data]
  exact propext ⟨text_ext, fun h => by rw [h]⟩
/-! ### loops over lists -/
theorem drop_cons {α : Type} {l : List α} {k : Nat} {x : α} {t : List α} (h : l.drop k = x :: t) (z : α) : k < l.length ∧ l.getD k z = x ∧ l.drop (k + 1) = t := by
  have hk : k < l.length := by
    rcases Nat.lt_or_ge k l.length with h' | h'
    · exact h'
    · rw [List.drop_eq_nil_of_le h'] at h; cases h
  rw [List.drop_eq_getElem_cons hk] at h
  obtain ⟨h1, h2⟩ := List.cons.inj h
  exact ⟨hk, by simp [List.getD, hk, h1], h2⟩
/-- a loop that goes along a list -/
theorem along {α S T : Type} (l : List α) (L : Nat → Nat → S → T) (G : List α → S → T) (hnil : ∀ j s, L (j + 1) l.length s = G [] s)
    (hcons : ∀ j k x t s, l.drop k = x :: t → k < l.length → (∀ s, L j (k + 1) s = G t s) → L (j + 1) k s = G (x :: t) s) :
    ∀ (t : List α) (j k : Nat) (s : S), l.drop k = t → k ≤ l.length → t.length < j → L j k s = G t s
  | [], j + 1, k, s, hd, hk, _ => by
    have : k = l.length := by
      rcases Nat.lt_or_ge k l.length with h' | h'
      · rw [List.drop_eq_getElem_cons h'] at hd; cases hd
      · omega
    subst this; exact hnil j s
  | x :: t, j + 1, k, s, hd, hk, hj => by
    have h := drop_cons hd x
    exact hcons j k x t s hd h.1 fun s => along l L G hnil hcons t j (k + 1) s h.2.2 (by omega) (by simp at hj; omega)
theorem along0 {α S T : Type} (l : List α) (L : Nat → Nat → S → T) (G : List α → S → T) {j : Nat} (hj : l.length < j) (s : S) (hnil : ∀ j s, L (j + 1) l.length s = G [] s)
    (hcons : ∀ j k x t s, l.drop k = x :: t → k < l.length → (∀ s, L j (k + 1) s = G t s) → L (j + 1) k s = G (x :: t) s) : L j 0 s = G l s :=
  along l L G hnil hcons l j 0 s rfl (by omega) hj
theorem set_take {α : Type} {s : List α} {k : Nat} {x : α} (h : k < s.length) (t : List α) : (s.set k x).take (k + 1) ++ t = s.take k ++ x :: t := by
  induction s generalizing k with
  | nil => simp at h
  | cons a s ih =>
    cases k with
    | zero => simp
    | succ k => simp at h; simp [ih h]
/-- a list is written anew, place by place -/
theorem copy_loop {α β : Type} (l : List α) (f : α → β) (L : Nat → Nat → List β → Option (List β)) (hexit : ∀ j s, L (j + 1) l.length s = some s)
    (hstep : ∀ j k s (h : k < l.length), s.length = l.length → L (j + 1) k s = L j (k + 1) (s.set k (f l[k]))) : ∀ (t : List α) (j k : Nat) (s : List β), l.drop k = t → k ≤ l.length → t.length < j → s.length = l.length → L j k s = some (s.take k ++ t.map f)
  | [], j + 1, k, s, hd, hk, _, hs => by
    have : k = l.length := by
      rcases Nat.lt_or_ge k l.length with h' | h'
      · rw [List.drop_eq_getElem_cons h'] at hd; cases hd
      · omega
    subst this
    rw [hexit, List.take_of_length_le (by omega)]; simp
  | x :: t, j + 1, k, s, hd, hk, hj, hs => by
    obtain ⟨h1, h2, h3⟩ := drop_cons hd x
    rw [hstep j k s h1 hs, copy_loop l f L hexit hstep t j (k + 1) _ h3 (by omega) (by simp at hj; omega) (by simpa using hs)]
    have hx : l[k] = x := by simpa [List.getD, h1] using h2
    rw [set_take (by omega), hx]; rfl
theorem copy_loop0 {α β : Type} (l : List α) (f : α → β) (L : Nat → Nat → List β → Option (List β)) {j : Nat} {s : List β} (hj : l.length < j) (hs : s.length = l.length) (hexit : ∀ j s, L (j + 1) l.length s = some s)
    (hstep : ∀ j k s (h : k < l.length), s.length = l.length → L (j + 1) k s = L j (k + 1) (s.set k (f l[k]))) : L j 0 s = some (l.map f) := by
  rw [copy_loop l f L hexit hstep l j 0 s rfl (by omega) hj hs]; simp
theorem bt_at {s : ByteArray} {k : Nat} (h : k < s.size) : bt s (k : Int) = ((s.data.toList[k]'(by rw [data_len]; exact h)).toNat : Int) := by
  simp only [bt, Int.toNat_natCast, h, dite_true]; rfl
theorem bt_drop {s : ByteArray} {k : Nat} {x : UInt8} {t : List UInt8} (h : s.data.toList.drop k = x :: t) : k < s.size ∧ bt s (k : Int) = (x.toNat : Int) := by
  obtain ⟨h1, h2, _⟩ := drop_cons h x
  have h3 : k < s.size := by rw [← data_len]; exact h1
  refine ⟨h3, ?_⟩
  rw [bt_at h3]
  rw [getD_at h1] at h2; rw [h2]
/-- a loop along a text -/
theorem alongT {S T : Type} (s : ByteArray) (L : Nat → Nat → S → T) (G : List UInt8 → S → T) (hnil : ∀ j st, L (j + 1) s.size st = G [] st)
    (hcons : ∀ j k x t st, s.data.toList.drop k = x :: t → k < s.size → bt s (k : Int) = (x.toNat : Int) → (∀ st, L j (k + 1) st = G t st) → L (j + 1) k st = G (x :: t) st) {j : Nat} (hj : s.size < j) (st : S) : L j 0 st = G s.data.toList st := by
  refine along0 s.data.toList L G (by rw [data_len]; exact hj) st (fun j st => by rw [data_len]; exact hnil j st) fun j k x t st hd hk ih => ?_
  obtain ⟨h1, h2⟩ := bt_drop hd
  exact hcons j k x t st hd h1 h2 ih
/-! ### sizes -/
def szR (c : Nat) (l : Int) : Int := if l < c then -1 else l - c
def big : Int := 1152921504606846976
theorem sz_str {r : Int → Option Int} {l : Int} {m c : Nat} (h0 : 0 ≤ l) (h1 : l ≤ big) (hm : (m : Int) ≤ big) (h : ∀ l', 0 ≤ l' → l' ≤ big → r l' = some (szR c l')) :
    (let v : Int := IntKind.wrap .i64 (l - (m : Int)); bif decide (v < (0 : Int)) then some (-1 : Int) else r v) = some (szR (m + c) l) := by
  simp only [big] at *
  rw [wrap64 (by omega) (by omega)]
  by_cases hl : l - (m : Int) < 0
  · rw [decide_eq_true hl, cond_true, szR, if_pos (by omega)]
  · rw [decide_eq_false hl, cond_false, h _ (by omega) (by omega)]
    simp only [szR]
    congr 1
    split <;> split <;> omega
theorem sz_call {r : Int → Option Int} {f : Option Int} {l : Int} {m c : Nat} (h0 : 0 ≤ l) (h1 : l ≤ big) (hf : f = some (szR m l)) (h : ∀ l', 0 ≤ l' → l' ≤ big → r l' = some (szR c l')) :
    (f.bind fun v => bif decide (v < (0 : Int)) then some (-1 : Int) else r v) = some (szR (m + c) l) := by
  rw [hf, Option.bind_some]
  by_cases hl : l < m
  · have : szR m l = -1 := if_pos hl
    rw [this, decide_eq_true (by omega), cond_true, szR, if_pos (by omega)]
  · have : szR m l = l - m := if_neg hl
    rw [this, decide_eq_false (by omega), cond_false, h _ (by omega) (by omega)]
    simp only [szR]
    congr 1
    split <;> split <;> omega
theorem sz_end {l : Int} (h0 : 0 ≤ l) : some l = some (szR 0 l) := by simp only [szR]; rw [if_neg (by omega)]; simp
theorem sz_loop {α : Type} (l : List α) (c : α → Nat) (L : Nat → Nat → Int → Option Int) (hexit : ∀ j s, L (j + 1) l.length s = some s)
    (hstep : ∀ j k s (h : k < l.length), 0 ≤ s → s ≤ big → L (j + 1) k s = if s < (c l[k] : Int) then some (-1) else L j (k + 1) (s - (c l[k] : Int))) :
    ∀ (t : List α) (j k : Nat) (s : Int), l.drop k = t → k ≤ l.length → t.length < j → 0 ≤ s → s ≤ big → L j k s = some (szR (t.map c).sum s)
  | [], j + 1, k, s, hd, hk, _, h0, h1 => by
    have : k = l.length := by
      rcases Nat.lt_or_ge k l.length with h' | h'
      · rw [List.drop_eq_getElem_cons h'] at hd; cases hd
      · omega
    subst this
    rw [hexit]; exact sz_end h0
  | x :: t, j + 1, k, s, hd, hk, hj, h0, h1 => by
    obtain ⟨h2, h3, h4⟩ := drop_cons hd x
    have hx : l[k] = x := by simpa [List.getD, h2] using h3
    rw [hstep j k s h2 h0 h1, hx]
    simp only [List.map_cons, List.sum_cons]
    split
    · rw [szR, if_pos (by omega)]
    · rw [sz_loop l c L hexit hstep t j (k + 1) _ h4 (by omega) (by simp at hj; omega) (by omega) (by omega)]
      simp only [szR]
      congr 1
      split <;> split <;> omega
theorem le_sum {α : Type} {f : α → Nat} : ∀ {l : List α} {x : α}, x ∈ l → f x ≤ (l.map f).sum
  | a :: l, x, h => by
    simp only [List.map_cons, List.sum_cons]
    rcases List.mem_cons.mp h with rfl | h
    · omega
    · have := le_sum (f := f) h; omega
theorem szR_step {c : Nat} {s : Int} (R : Int → Option Int) (b : Option Int) (h0 : 0 ≤ s) : (bif decide (szR c s < 0) then b else R (szR c s)) = if s < (c : Int) then b else R (s - (c : Int)) := by
  by_cases h : s < (c : Int)
  · have : szR c s = -1 := if_pos h
    rw [this, if_pos h]; rfl
  · have : szR c s = s - c := if_neg h
    rw [this, if_neg h, decide_eq_false (by omega)]; rfl
theorem eq_step {α : Type} [DecidableEq α] (x y : α) (R : Option Bool) : (bif !decide (x = y) then some false else R) = if x = y then R else some false := by
  by_cases h : x = y <;> simp [h]
theorem eq_step2 (x y : Int) (R : Option Bool) : (bif x != y then some false else R) = if x = y then R else some false := by
  by_cases h : x = y
  · subst h; simp
  · rw [if_neg h, show (x != y) = true by simpa using h]; rfl
theorem eq_step3 (x y : Bool) (R : Option Bool) : (bif !(x == y) then some false else R) = if x = y then R else some false := by
  cases x <;> cases y <;> rfl
theorem eq_last {p : Prop} [Decidable p] : (if p then some true else some false) = some (decide p) := by by_cases h : p <;> simp [h]
theorem eq_and {p q : Prop} [Decidable p] [Decidable q] : (if p then some (decide q) else some false) = some (decide (p ∧ q)) := by by_cases h : p <;> simp [h]
theorem str_step {c : Nat} {s : Int} (a b : Option Int) : (bif decide (s - (c : Int) < 0) then a else b) = if s < (c : Int) then a else b := by
  by_cases h : s < (c : Int)
  · rw [if_pos h, decide_eq_true (by omega)]; rfl
  · rw [if_neg h, decide_eq_false (by omega)]; rfl
theorem eq_end : ∀ b : Bool, (bif !b then some false else some true) = some b := by intro b; cases b <;> rfl
theorem bif_ite {α : Type} {p : Prop} [Decidable p] {q : Prop} [Decidable q] (h : p ↔ q) (a b : α) : (bif decide p then a else b) = if q then a else b := by
  by_cases hp : p <;> simp [hp, h.mp, ← h]
/-! ### lists compared -/
theorem eq_loop {α : Type} [DecidableEq α] (l m : List α) (hlm : l.length = m.length) (L : Nat → Nat → Option Bool) (hexit : ∀ j, L (j + 1) l.length = some true)
    (hstep : ∀ j k (h : k < l.length) (h' : k < m.length), L (j + 1) k = if l[k] = m[k] then L j (k + 1) else some false) :
    ∀ (t : List α) (j k : Nat), l.drop k = t → k ≤ l.length → t.length < j → L j k = some (decide (t = m.drop k))
  | [], j + 1, k, hd, hk, _ => by
    have : k = l.length := by
      rcases Nat.lt_or_ge k l.length with h' | h'
      · rw [List.drop_eq_getElem_cons h'] at hd; cases hd
      · omega
    subst this
    rw [hexit, List.drop_eq_nil_of_le (by omega)]; simp
  | x :: t, j + 1, k, hd, hk, hj => by
    obtain ⟨h2, h3, h4⟩ := drop_cons hd x
    have hx : l[k] = x := by simpa [List.getD, h2] using h3
    rw [hstep j k h2 (by omega), hx, List.drop_eq_getElem_cons (show k < m.length by omega)]
    split
    · rename_i e
      rw [eq_loop l m hlm L hexit hstep t j (k + 1) h4 (by omega) (by simp at hj; omega)]
      congr 1; exact decide_eq_decide.mpr ⟨fun h => by rw [e, h], fun h => (List.cons.inj h).2⟩
    · rename_i e
      congr 1; exact (decide_eq_false fun h => e (List.cons.inj h).1).symm
/-! ### searches -/
def idxFrom {α : Type} (p : α → Bool) : List α → Nat → Int
  | [], _ => -1
  | x :: t, k => if p x = true then (k : Int) else idxFrom p t (k + 1)
def idx {α : Type} (p : α → Bool) (l : List α) : Int := idxFrom p l 0
theorem find_loop {α : Type} (p : α → Bool) (l : List α) (L : Nat → Nat → Option Int) (hexit : ∀ j, L (j + 1) l.length = some (-1))
    (hstep : ∀ j k (h : k < l.length), L (j + 1) k = if p l[k] = true then some (k : Int) else L j (k + 1)) :
    ∀ (t : List α) (j k : Nat), l.drop k = t → k ≤ l.length → t.length < j → L j k = some (idxFrom p t k)
  | [], j + 1, k, hd, hk, _ => by
    have : k = l.length := by
      rcases Nat.lt_or_ge k l.length with h' | h'
      · rw [List.drop_eq_getElem_cons h'] at hd; cases hd
      · omega
    subst this; rw [hexit]; rfl
  | x :: t, j + 1, k, hd, hk, hj => by
    obtain ⟨h2, h3, h4⟩ := drop_cons hd x
    have hx : l[k] = x := by simpa [List.getD, h2] using h3
    rw [hstep j k h2, hx, find_loop p l L hexit hstep t j (k + 1) h4 (by omega) (by simp at hj; omega)]
    simp only [idxFrom]; split <;> rfl
theorem all_loop {α : Type} (p : α → Bool) (l : List α) (L : Nat → Nat → Option Bool) (r : Option Bool) (hexit : ∀ j, L (j + 1) l.length = r)
    (hstep : ∀ j k (h : k < l.length), L (j + 1) k = if p l[k] = true then L j (k + 1) else some false) :
    ∀ (t : List α) (j k : Nat), l.drop k = t → k ≤ l.length → t.length < j → L j k = if t.all p = true then r else some false
  | [], j + 1, k, hd, hk, _ => by
    have : k = l.length := by
      rcases Nat.lt_or_ge k l.length with h' | h'
      · rw [List.drop_eq_getElem_cons h'] at hd; cases hd
      · omega
    subst this; rw [hexit]; rfl
  | x :: t, j + 1, k, hd, hk, hj => by
    obtain ⟨h2, h3, h4⟩ := drop_cons hd x
    have hx : l[k] = x := by simpa [List.getD, h2] using h3
    rw [hstep j k h2, hx, all_loop p l L r hexit hstep t j (k + 1) h4 (by omega) (by simp at hj; omega)]
    by_cases hp : p x = true <;> simp [hp]
theorem bif_step {b : Bool} {α : Type} (x y : α) : (bif !b then y else x) = if b = true then x else y := by cases b <;> rfl
theorem bif_step' {b : Bool} {α : Type} (x y : α) : (bif b then x else y) = if b = true then x else y := by cases b <;> rfl
theorem idx_bound {α : Type} (p : α → Bool) : ∀ (l : List α) (k : Nat), idxFrom p l k = -1 ∨ ((k : Int) ≤ idxFrom p l k ∧ idxFrom p l k < (k + l.length : Nat))
  | [], k => .inl rfl
  | x :: t, k => by
    simp only [idxFrom]
    split
    · right; simp only [List.length_cons]; omega
    · rcases idx_bound p t (k + 1) with h | h
      · exact .inl h
      · right; simp only [List.length_cons]; omega
theorem idx_lt {α : Type} (p : α → Bool) (l : List α) : -1 ≤ idx p l ∧ idx p l < (l.length : Int) := by
  rcases idx_bound p l 0 with h | h
  · unfold idx; rw [h]; omega
  · unfold idx; omega
def allFrom {α : Type} (p : α → Nat → Bool) : List α → Nat → Bool
  | [], _ => true
  | x :: t, k => p x k && allFrom p t (k + 1)
theorem allFrom_loop {α : Type} (p : α → Nat → Bool) (l : List α) (L : Nat → Nat → Option Bool) (r : Option Bool) (hexit : ∀ j, L (j + 1) l.length = r)
    (hstep : ∀ j k (h : k < l.length), L (j + 1) k = if p l[k] k = true then L j (k + 1) else some false) :
    ∀ (t : List α) (j k : Nat), l.drop k = t → k ≤ l.length → t.length < j → L j k = if allFrom p t k = true then r else some false
  | [], j + 1, k, hd, hk, _ => by
    have : k = l.length := by
      rcases Nat.lt_or_ge k l.length with h' | h'
      · rw [List.drop_eq_getElem_cons h'] at hd; cases hd
      · omega
    subst this; rw [hexit]; rfl
  | x :: t, j + 1, k, hd, hk, hj => by
    obtain ⟨h2, h3, h4⟩ := drop_cons hd x
    have hx : l[k] = x := by simpa [List.getD, h2] using h3
    rw [hstep j k h2, hx, allFrom_loop p l L r hexit hstep t j (k + 1) h4 (by omega) (by simp at hj; omega)]
    by_cases hp : p x k = true <;> simp [hp, allFrom]
def runs {α S : Type} (f : α → S → Option S) : List α → S → Option S
  | [], s => some s
  | x :: t, s => (f x s).bind (runs f t)
def after {S T : Type} (o : Option S) (X : T) (R : S → T) : T := match o with
  | some s => R s
  | none => X
theorem run_loop {α S T : Type} (l : List α) (f : α → S → Option S) (L : Nat → Nat → S → T) (R : S → T) (X : T) (Inv : S → Prop) (hinv : ∀ x ∈ l, ∀ s s', Inv s → f x s = some s' → Inv s')
    (hexit : ∀ j s, Inv s → L (j + 1) l.length s = R s) (hstep : ∀ j k s (h : k < l.length), Inv s → L (j + 1) k s = after (f l[k] s) X fun s' => L j (k + 1) s') :
    ∀ (t : List α) (j k : Nat) (s : S), l.drop k = t → k ≤ l.length → t.length < j → Inv s → L j k s = after (runs f t s) X R
  | [], j + 1, k, s, hd, hk, _, hs => by
    have : k = l.length := by
      rcases Nat.lt_or_ge k l.length with h' | h'
      · rw [List.drop_eq_getElem_cons h'] at hd; cases hd
      · omega
    subst this; rw [hexit _ _ hs]; rfl
  | x :: t, j + 1, k, s, hd, hk, hj, hs => by
    obtain ⟨h2, h3, h4⟩ := drop_cons hd x
    have hx : l[k] = x := by simpa [List.getD, h2] using h3
    rw [hstep j k s h2 hs, hx]
    simp only [runs]
    cases hf : f x s with
    | none => rfl
    | some s' => exact run_loop l f L R X Inv hinv hexit hstep t j (k + 1) s' h4 (by omega) (by simp at hj; omega) (hinv x (by rw [← hx]; exact List.getElem_mem h2) s s' hs hf)
theorem allFrom_loopQ {α : Type} (p : α → Nat → Bool) (Q : Nat → Prop) (l : List α) (L : Nat → Nat → Option Bool) (r : Option Bool) (hexit : ∀ j, L (j + 1) l.length = r)
    (hQ : ∀ k (h : k < l.length), Q k → p l[k] k = true → Q (k + 1)) (hstep : ∀ j k (h : k < l.length), Q k → L (j + 1) k = if p l[k] k = true then L j (k + 1) else some false) :
    ∀ (t : List α) (j k : Nat), l.drop k = t → k ≤ l.length → t.length < j → Q k → L j k = if allFrom p t k = true then r else some false
  | [], j + 1, k, hd, hk, _, _ => by
    have : k = l.length := by
      rcases Nat.lt_or_ge k l.length with h' | h'
      · rw [List.drop_eq_getElem_cons h'] at hd; cases hd
      · omega
    subst this; rw [hexit]; rfl
  | x :: t, j + 1, k, hd, hk, hj, hq => by
    obtain ⟨h2, h3, h4⟩ := drop_cons hd x
    have hx : l[k] = x := by simpa [List.getD, h2] using h3
    rw [hstep j k h2 hq, hx]
    by_cases hp : p x k = true
    · rw [allFrom_loopQ p Q l L r hexit hQ hstep t j (k + 1) h4 (by omega) (by simp at hj; omega) (hQ k h2 hq (by rw [hx]; exact hp))]
      simp [hp, allFrom]
    · simp [hp, allFrom]
theorem allFrom_iff {α : Type} (p : α → Nat → Bool) : ∀ (l : List α) (k : Nat), allFrom p l k = true ↔ ∀ i (h : i < l.length), p l[i] (k + i) = true
  | [], k => by simp [allFrom]
  | x :: t, k => by
    simp only [allFrom, Bool.and_eq_true, allFrom_iff p t (k + 1)]
    constructor
    · rintro ⟨h1, h2⟩ i hi
      cases i with
      | zero => exact h1
      | succ i => have := h2 i (by simp at hi; omega); rwa [show k + 1 + i = k + (i + 1) by omega] at this
    · intro h
      refine ⟨h 0 (by simp), fun i hi => ?_⟩
      have := h (i + 1) (by simp; omega)
      rwa [show k + (i + 1) = k + 1 + i by omega] at this
theorem map_loop {α β : Type} (l : List α) (g : α → β) (L : Nat → Nat → List β → Option (List β)) (hexit : ∀ j s, L (j + 1) l.length s = some s)
    (hstep : ∀ j k s (h : k < l.length), s.length = k → L (j + 1) k s = L j (k + 1) (s ++ [g l[k]])) : ∀ (t : List α) (j k : Nat) (s : List β), l.drop k = t → k ≤ l.length → t.length < j → s.length = k → L j k s = some (s ++ t.map g)
  | [], j + 1, k, s, hd, hk, _, hs => by
    have : k = l.length := by
      rcases Nat.lt_or_ge k l.length with h' | h'
      · rw [List.drop_eq_getElem_cons h'] at hd; cases hd
      · omega
    subst this; rw [hexit]; simp
  | x :: t, j + 1, k, s, hd, hk, hj, hs => by
    obtain ⟨h2, h3, h4⟩ := drop_cons hd x
    have hx : l[k] = x := by simpa [List.getD, h2] using h3
    rw [hstep j k s h2 hs, hx, map_loop l g L hexit hstep t j (k + 1) _ h4 (by omega) (by simp at hj; omega) (by simp [hs])]
    simp
theorem le_big {l : Int} (h : l ≤ 1048576) : l ≤ big := by simp only [big]; omega
theorem law_sz {r : Int → Option Bool} {f : Option Int} {l : Int} {m : Nat} (hf : f = some (szR m l)) (h0 : 0 ≤ l) (h1 : l ≤ 1048576) (h : m ≤ 1048576 → ∀ l', 0 ≤ l' → l' ≤ 1048576 → r l' = some true) :
    (f.bind fun v => bif decide (v < (0 : Int)) then some true else r v) = some true := by
  rw [hf, Option.bind_some]
  by_cases hl : l < m
  · have : szR m l = -1 := if_pos hl
    rw [this]; rfl
  · have : szR m l = l - m := if_neg hl
    rw [this, decide_eq_false (by omega), cond_false]
    exact h (by omega) _ (by omega) (by omega)
theorem law_str {r : Option Bool} {m : Nat} (h : m ≤ 1048576 → r = some true) : (let v : Bool := decide ((1048576 : Int) < (m : Int)); bif v then some true else r) = some true := by
  by_cases hl : (1048576 : Int) < (m : Int)
  · simp [hl]
  · simp only [decide_eq_false hl, cond_false]; exact h (by omega)
/-! ### marks: what a law writes into a list, and finds there -/
def mkL {E : Type} (mk : Int → E → E) (mc : E → Nat) : Int → List E → List E
  | _, [] => []
  | k, x :: t => mk k x :: mkL mk mc (k + mc x) t
def mcL {E : Type} (mc : E → Nat) : List E → Nat
  | [] => 0
  | x :: t => mc x + mcL mc t
theorem mkL_len {E : Type} (mk : Int → E → E) (mc : E → Nat) : ∀ (l : List E) (k : Int), (mkL mk mc k l).length = l.length
  | [], k => rfl
  | x :: t, k => by simp [mkL, mkL_len mk mc t]
theorem mcL_le {E : Type} {mc : E → Nat} {b : Nat} : ∀ {l : List E}, (∀ x ∈ l, mc x ≤ b) → mcL mc l ≤ l.length * b
  | [], _ => by simp [mcL]
  | x :: t, h => by
    have h1 := h x (List.mem_cons_self ..)
    have h2 := mcL_le (l := t) fun y hy => h y (List.mem_cons_of_mem _ hy)
    simp only [mcL, List.length_cons, Nat.add_mul, Nat.one_mul]
    omega
theorem mcL_le' {E : Type} {mc : E → Nat} {b m c : Nat} {l : List E} (h : ∀ x ∈ l, mc x ≤ b) (hl : l.length ≤ m) (hc : m * b ≤ c) : mcL mc l ≤ c := Nat.le_trans (mcL_le h) (Nat.le_trans (Nat.mul_le_mul_right b hl) hc)
def markMax : Int := 9000000000000000000
theorem mark_loop {E : Type} (mk : Int → E → E) (mc : E → Nat) (P : E → Prop) (F : Nat → Int → Int → List E → Option (Int × (List E × Unit)))
    (hend : ∀ j k (l : List E), F (j + 1) k (l.length : Int) l = some (k, (l, ())))
    (hstep : ∀ j k i (l : List E) (hi : i < l.length), P l[i] → 0 ≤ k → k + mc l[i] ≤ markMax → l.length ≤ 1048577 → F (j + 1) k (i : Int) l = F j (k + mc l[i]) ((i + 1 : Nat) : Int) (l.set i (mk k l[i]))) :
    ∀ (t pre : List E) (j : Nat) (k : Int), t.length < j → (pre ++ t).length ≤ 1048577 → (∀ x ∈ t, P x) → 0 ≤ k → k + mcL mc t ≤ markMax → F j k (pre.length : Int) (pre ++ t) = some (k + mcL mc t, (pre ++ mkL mk mc k t, ()))
  | [], pre, j, k, hj, _, _, _, _ => by
    obtain ⟨j, rfl⟩ : ∃ i, j = i + 1 := ⟨j - 1, by simp at hj; omega⟩
    have := hend j k pre
    simpa [mkL, mcL] using this
  | x :: t, pre, j, k, hj, hl, hP, h0, h1 => by
    obtain ⟨j, rfl⟩ : ∃ i, j = i + 1 := ⟨j - 1, by simp at hj; omega⟩
    have hi : pre.length < (pre ++ x :: t).length := by simp
    have hx : (pre ++ x :: t)[pre.length] = x := by simp
    simp only [mcL] at h1
    have hs := hstep j k pre.length (pre ++ x :: t) hi (by rw [hx]; exact hP x (List.mem_cons_self ..)) h0 (by rw [hx]; omega) hl
    rw [hx] at hs
    have hset : (pre ++ x :: t).set pre.length (mk k x) = (pre ++ [mk k x]) ++ t := by simp
    rw [hs, hset]
    have ih := mark_loop mk mc P F hend hstep t (pre ++ [mk k x]) j (k + mc x) (by simpa using hj) (by simp at hl ⊢; omega) (fun y hy => hP y (List.mem_cons_of_mem _ hy)) (by omega) (by omega)
    rw [show (pre ++ [mk k x]).length = pre.length + 1 by simp] at ih
    rw [ih]
    simp only [mkL, mcL, List.append_assoc, List.singleton_append]
    congr 2
    omega
theorem held_loop {E : Type} (mk : Int → E → E) (mc : E → Nat) (P : E → Prop) (L : List E) (H : Nat → Int → Int → Option Int) (hL : L.length ≤ 1048577)
    (hend : ∀ j k, H (j + 1) k (L.length : Int) = some k)
    (hstep : ∀ j k i x (hi : i < L.length), P x → L[i] = mk k x → 0 ≤ k → k + mc x ≤ markMax → H (j + 1) k (i : Int) = H j (k + mc x) ((i + 1 : Nat) : Int)) :
    ∀ (t pre : List E) (j : Nat) (k : Int), L = pre ++ mkL mk mc k t → t.length < j → (∀ x ∈ t, P x) → 0 ≤ k → k + mcL mc t ≤ markMax → H j k (pre.length : Int) = some (k + mcL mc t)
  | [], pre, j, k, hp, hj, _, _, _ => by
    obtain ⟨j, rfl⟩ : ∃ i, j = i + 1 := ⟨j - 1, by simp at hj; omega⟩
    simp only [mkL, List.append_nil] at hp
    have := hend j k
    rw [hp] at this
    simpa [mcL] using this
  | x :: t, pre, j, k, hp, hj, hP, h0, h1 => by
    obtain ⟨j, rfl⟩ : ∃ i, j = i + 1 := ⟨j - 1, by simp at hj; omega⟩
    simp only [mkL] at hp
    simp only [mcL] at h1
    have hi : pre.length < L.length := by rw [hp]; simp
    have hx : L[pre.length] = mk k x := by simp [hp]
    have hs := hstep j k pre.length x hi (hP x (List.mem_cons_self ..)) hx h0 (by omega)
    rw [hs]
    have ih := held_loop mk mc P L H hL hend hstep t (pre ++ [mk k x]) j (k + mc x) (by rw [hp]; simp) (by simpa using hj) (fun y hy => hP y (List.mem_cons_of_mem _ hy)) (by omega) (by omega)
    rw [show (pre ++ [mk k x]).length = pre.length + 1 by simp] at ih
    rw [ih]
    simp only [mcL]
    congr 1
    omega
theorem wrapk {x : Int} (h0 : 0 ≤ x) (h1 : x ≤ 9223372036854775807) : IntKind.wrap .i64 x = x := wrap64 (by omega) h1
theorem setAt {α : Type} {l : List α} {i : Nat} {x z : α} (h : i < l.length) : (l.set i x).getD i z = x := by simp [List.getD, h]
abbrev T_Val := Int × (Int × (ByteArray))
instance i_Val : DecidableEq T_Val := @instDecidableEqProd _ _ inferInstance (@instDecidableEqProd _ _ inferInstance (inferInstance))
def cost_Val (x : T_Val) : Nat := x.2.2.size + (0)
def sm_Val (k : Nat) (x : T_Val) : Prop := x.2.2.size ≤ k
theorem cost_sm_Val {k : Nat} {x : T_Val} (h : cost_Val x ≤ k) : sm_Val k x := by
  unfold cost_Val at h
  unfold sm_Val
  exact by omega
abbrev T_ValS := List T_Val
def cost_ValS (x : T_ValS) : Nat := x.length + (x.map (cost_Val)).sum
def sm_ValS (k : Nat) (l : T_ValS) : Prop := l.length ≤ k ∧ ∀ x ∈ l, sm_Val k x
theorem cost_sm_ValS {k : Nat} {l : T_ValS} (h : cost_ValS l ≤ k) : sm_ValS k l := by
  unfold cost_ValS at h
  unfold sm_ValS
  refine ⟨by omega, fun x hx => ?_⟩
  have := le_sum (f := cost_Val) hx
  exact cost_sm_Val (by omega)
abbrev T_Col := ByteArray × (Int × (Bool × (Bool × (T_Val))))
instance i_Col : DecidableEq T_Col := @instDecidableEqProd _ _ inferInstance (@instDecidableEqProd _ _ inferInstance (@instDecidableEqProd _ _ inferInstance (@instDecidableEqProd _ _ inferInstance (inferInstance))))
def cost_Col (x : T_Col) : Nat := x.1.size + (cost_Val x.2.2.2.2 + (0))
def sm_Col (k : Nat) (x : T_Col) : Prop := x.1.size ≤ k ∧ sm_Val k x.2.2.2.2
theorem cost_sm_Col {k : Nat} {x : T_Col} (h : cost_Col x ≤ k) : sm_Col k x := by
  unfold cost_Col at h
  unfold sm_Col
  exact ⟨by omega, cost_sm_Val (by omega)⟩
abbrev T_ColS := List T_Col
def cost_ColS (x : T_ColS) : Nat := x.length + (x.map (cost_Col)).sum
def sm_ColS (k : Nat) (l : T_ColS) : Prop := l.length ≤ k ∧ ∀ x ∈ l, sm_Col k x
theorem cost_sm_ColS {k : Nat} {l : T_ColS} (h : cost_ColS l ≤ k) : sm_ColS k l := by
  unfold cost_ColS at h
  unfold sm_ColS
  refine ⟨by omega, fun x hx => ?_⟩
  have := le_sum (f := cost_Col) hx
  exact cost_sm_Col (by omega)
abbrev T_StringS := List ByteArray
def cost_StringS (x : T_StringS) : Nat := x.length + (x.map (fun (x : ByteArray) => x.size)).sum
def sm_StringS (k : Nat) (l : T_StringS) : Prop := l.length ≤ k ∧ ∀ x ∈ l, x.size ≤ k
theorem cost_sm_StringS {k : Nat} {l : T_StringS} (h : cost_StringS l ≤ k) : sm_StringS k l := by
  unfold cost_StringS at h
  unfold sm_StringS
  refine ⟨by omega, fun x hx => ?_⟩
  have := le_sum (f := fun (x : ByteArray) => x.size) hx
  exact by omega
abbrev T_Table := ByteArray × (T_ColS × (T_StringS))
instance i_Table : DecidableEq T_Table := @instDecidableEqProd _ _ inferInstance (@instDecidableEqProd _ _ inferInstance (inferInstance))
def cost_Table (x : T_Table) : Nat := x.1.size + (cost_ColS x.2.1 + (cost_StringS x.2.2 + (0)))
def sm_Table (k : Nat) (x : T_Table) : Prop := x.1.size ≤ k ∧ sm_ColS k x.2.1 ∧ sm_StringS k x.2.2
theorem cost_sm_Table {k : Nat} {x : T_Table} (h : cost_Table x ≤ k) : sm_Table k x := by
  unfold cost_Table at h
  unfold sm_Table
  exact ⟨by omega, cost_sm_ColS (by omega), cost_sm_StringS (by omega)⟩
abbrev T_TableS := List T_Table
def cost_TableS (x : T_TableS) : Nat := x.length + (x.map (cost_Table)).sum
def sm_TableS (k : Nat) (l : T_TableS) : Prop := l.length ≤ k ∧ ∀ x ∈ l, sm_Table k x
theorem cost_sm_TableS {k : Nat} {l : T_TableS} (h : cost_TableS l ≤ k) : sm_TableS k l := by
  unfold cost_TableS at h
  unfold sm_TableS
  refine ⟨by omega, fun x hx => ?_⟩
  have := le_sum (f := cost_Table) hx
  exact cost_sm_Table (by omega)
abbrev T_Cat := T_TableS
def cost_Cat (x : T_Cat) : Nat := cost_TableS x + (0)
def sm_Cat (k : Nat) (x : T_Cat) : Prop := sm_TableS k x
theorem cost_sm_Cat {k : Nat} {x : T_Cat} (h : cost_Cat x ≤ k) : sm_Cat k x := by
  unfold cost_Cat at h
  unfold sm_Cat
  exact cost_sm_TableS (by omega)
abbrev T_Row := T_ValS
def cost_Row (x : T_Row) : Nat := cost_ValS x + (0)
def sm_Row (k : Nat) (x : T_Row) : Prop := sm_ValS k x
theorem cost_sm_Row {k : Nat} {x : T_Row} (h : cost_Row x ≤ k) : sm_Row k x := by
  unfold cost_Row at h
  unfold sm_Row
  exact cost_sm_ValS (by omega)
abbrev T_RowS := List T_Row
def cost_RowS (x : T_RowS) : Nat := x.length + (x.map (cost_Row)).sum
def sm_RowS (k : Nat) (l : T_RowS) : Prop := l.length ≤ k ∧ ∀ x ∈ l, sm_Row k x
theorem cost_sm_RowS {k : Nat} {l : T_RowS} (h : cost_RowS l ≤ k) : sm_RowS k l := by
  unfold cost_RowS at h
  unfold sm_RowS
  refine ⟨by omega, fun x hx => ?_⟩
  have := le_sum (f := cost_Row) hx
  exact cost_sm_Row (by omega)
abbrev T_Rows := T_RowS
def cost_Rows (x : T_Rows) : Nat := cost_RowS x + (0)
def sm_Rows (k : Nat) (x : T_Rows) : Prop := sm_RowS k x
theorem cost_sm_Rows {k : Nat} {x : T_Rows} (h : cost_Rows x ≤ k) : sm_Rows k x := by
  unfold cost_Rows at h
  unfold sm_Rows
  exact cost_sm_RowS (by omega)
abbrev T_RowsS := List T_Rows
def cost_RowsS (x : T_RowsS) : Nat := x.length + (x.map (cost_Rows)).sum
def sm_RowsS (k : Nat) (l : T_RowsS) : Prop := l.length ≤ k ∧ ∀ x ∈ l, sm_Rows k x
theorem cost_sm_RowsS {k : Nat} {l : T_RowsS} (h : cost_RowsS l ≤ k) : sm_RowsS k l := by
  unfold cost_RowsS at h
  unfold sm_RowsS
  refine ⟨by omega, fun x hx => ?_⟩
  have := le_sum (f := cost_Rows) hx
  exact cost_sm_Rows (by omega)
abbrev T_Db := T_Cat × (T_RowsS)
instance i_Db : DecidableEq T_Db := @instDecidableEqProd _ _ inferInstance (inferInstance)
def cost_Db (x : T_Db) : Nat := cost_Cat x.1 + (cost_RowsS x.2 + (0))
def sm_Db (k : Nat) (x : T_Db) : Prop := sm_Cat k x.1 ∧ sm_RowsS k x.2
theorem cost_sm_Db {k : Nat} {x : T_Db} (h : cost_Db x ≤ k) : sm_Db k x := by
  unfold cost_Db at h
  unfold sm_Db
  exact ⟨cost_sm_Cat (by omega), cost_sm_RowsS (by omega)⟩
abbrev T_Ddl := Int × (ByteArray × (T_ColS × (T_StringS × (ByteArray × (ByteArray)))))
instance i_Ddl : DecidableEq T_Ddl := @instDecidableEqProd _ _ inferInstance (@instDecidableEqProd _ _ inferInstance (@instDecidableEqProd _ _ inferInstance (@instDecidableEqProd _ _ inferInstance (@instDecidableEqProd _ _ inferInstance (inferInstance)))))
def cost_Ddl (x : T_Ddl) : Nat := x.2.1.size + (cost_ColS x.2.2.1 + (cost_StringS x.2.2.2.1 + (x.2.2.2.2.1.size + (x.2.2.2.2.2.size + (0)))))
def sm_Ddl (k : Nat) (x : T_Ddl) : Prop := x.2.1.size ≤ k ∧ sm_ColS k x.2.2.1 ∧ sm_StringS k x.2.2.2.1 ∧ x.2.2.2.2.1.size ≤ k ∧ x.2.2.2.2.2.size ≤ k
theorem cost_sm_Ddl {k : Nat} {x : T_Ddl} (h : cost_Ddl x ≤ k) : sm_Ddl k x := by
  unfold cost_Ddl at h
  unfold sm_Ddl
  exact ⟨by omega, cost_sm_ColS (by omega), cost_sm_StringS (by omega), by omega, by omega⟩
abbrev T_Stmt := Int × (ByteArray × (T_ValS × (T_Row × (T_Ddl))))
instance i_Stmt : DecidableEq T_Stmt := @instDecidableEqProd _ _ inferInstance (@instDecidableEqProd _ _ inferInstance (@instDecidableEqProd _ _ inferInstance (@instDecidableEqProd _ _ inferInstance (inferInstance))))
def cost_Stmt (x : T_Stmt) : Nat := x.2.1.size + (cost_ValS x.2.2.1 + (cost_Row x.2.2.2.1 + (cost_Ddl x.2.2.2.2 + (0))))
def sm_Stmt (k : Nat) (x : T_Stmt) : Prop := x.2.1.size ≤ k ∧ sm_ValS k x.2.2.1 ∧ sm_Row k x.2.2.2.1 ∧ sm_Ddl k x.2.2.2.2
theorem cost_sm_Stmt {k : Nat} {x : T_Stmt} (h : cost_Stmt x ≤ k) : sm_Stmt k x := by
  unfold cost_Stmt at h
  unfold sm_Stmt
  exact ⟨by omega, cost_sm_ValS (by omega), cost_sm_Row (by omega), cost_sm_Ddl (by omega)⟩
abbrev T_StmtS := List T_Stmt
def cost_StmtS (x : T_StmtS) : Nat := x.length + (x.map (cost_Stmt)).sum
def sm_StmtS (k : Nat) (l : T_StmtS) : Prop := l.length ≤ k ∧ ∀ x ∈ l, sm_Stmt k x
theorem cost_sm_StmtS {k : Nat} {l : T_StmtS} (h : cost_StmtS l ≤ k) : sm_StmtS k l := by
  unfold cost_StmtS at h
  unfold sm_StmtS
  refine ⟨by omega, fun x hx => ?_⟩
  have := le_sum (f := cost_Stmt) hx
  exact cost_sm_Stmt (by omega)
abbrev T_Rec := Int × (Int × (T_Stmt))
instance i_Rec : DecidableEq T_Rec := @instDecidableEqProd _ _ inferInstance (@instDecidableEqProd _ _ inferInstance (inferInstance))
def cost_Rec (x : T_Rec) : Nat := cost_Stmt x.2.2 + (0)
def sm_Rec (k : Nat) (x : T_Rec) : Prop := sm_Stmt k x.2.2
theorem cost_sm_Rec {k : Nat} {x : T_Rec} (h : cost_Rec x ≤ k) : sm_Rec k x := by
  unfold cost_Rec at h
  unfold sm_Rec
  exact cost_sm_Stmt (by omega)
abbrev T_RecS := List T_Rec
def cost_RecS (x : T_RecS) : Nat := x.length + (x.map (cost_Rec)).sum
def sm_RecS (k : Nat) (l : T_RecS) : Prop := l.length ≤ k ∧ ∀ x ∈ l, sm_Rec k x
theorem cost_sm_RecS {k : Nat} {l : T_RecS} (h : cost_RecS l ≤ k) : sm_RecS k l := by
  unfold cost_RecS at h
  unfold sm_RecS
  refine ⟨by omega, fun x hx => ?_⟩
  have := le_sum (f := cost_Rec) hx
  exact cost_sm_Rec (by omega)
abbrev T_ByteS := List Int
def cost_ByteS (x : T_ByteS) : Nat := x.length + (x.map (fun _ => 0)).sum
def sm_ByteS (k : Nat) (l : T_ByteS) : Prop := l.length ≤ k ∧ ∀ x ∈ l, 0 ≤ x ∧ x ≤ 255
abbrev T_IntS := List Int
def cost_IntS (x : T_IntS) : Nat := x.length + (x.map (fun _ => 0)).sum
def sm_IntS (k : Nat) (l : T_IntS) : Prop := l.length ≤ k ∧ ∀ x ∈ l, True
theorem cost_sm_IntS {k : Nat} {l : T_IntS} (h : cost_IntS l ≤ k) : sm_IntS k l := by
  unfold cost_IntS at h
  unfold sm_IntS
  refine ⟨by omega, fun x hx => ?_⟩
  trivial

theorem wf_str {n : Nat} (h : n ≤ reachBytes) : n ≤ 140737488355328 := Nat.le_trans h (by decide)
theorem wf_len {n b : Nat} (hb : 1 ≤ b) (h : n * b ≤ reachBytes) : n ≤ 140737488355328 := Nat.le_trans (Nat.le_trans (Nat.le_mul_of_pos_right n hb) h) (by decide)
abbrev K_Val : Kd := .pair (.int .i64) (.pair (.int .i64) (.str))
theorem wf_Val {B : Kd → Nat} (hB : ∀ g, 1 ≤ B g) (x : T_Val) (h : Wf B K_Val x) : sm_Val 140737488355328 x := wf_str h.2.2
abbrev K_ValS : Kd := .sl K_Val
theorem wf_ValS {B : Kd → Nat} (hB : ∀ g, 1 ≤ B g) (x : T_ValS) (h : Wf B K_ValS x) : sm_ValS 140737488355328 x := ⟨wf_len (hB _) h.1, fun y hy => wf_Val hB y (h.2 y hy)⟩
abbrev K_Col : Kd := .pair .str (.pair (.int .i64) (.pair .bool (.pair .bool (K_Val))))
theorem wf_Col {B : Kd → Nat} (hB : ∀ g, 1 ≤ B g) (x : T_Col) (h : Wf B K_Col x) : sm_Col 140737488355328 x := ⟨wf_str h.1, wf_Val hB x.2.2.2.2 h.2.2.2.2⟩
abbrev K_ColS : Kd := .sl K_Col
theorem wf_ColS {B : Kd → Nat} (hB : ∀ g, 1 ≤ B g) (x : T_ColS) (h : Wf B K_ColS x) : sm_ColS 140737488355328 x := ⟨wf_len (hB _) h.1, fun y hy => wf_Col hB y (h.2 y hy)⟩
abbrev K_StringS : Kd := .sl .str
theorem wf_StringS {B : Kd → Nat} (hB : ∀ g, 1 ≤ B g) (x : T_StringS) (h : Wf B K_StringS x) : sm_StringS 140737488355328 x := ⟨wf_len (hB _) h.1, fun y hy => wf_str (h.2 y hy)⟩
abbrev K_Table : Kd := .pair .str (.pair K_ColS (K_StringS))
theorem wf_Table {B : Kd → Nat} (hB : ∀ g, 1 ≤ B g) (x : T_Table) (h : Wf B K_Table x) : sm_Table 140737488355328 x := ⟨wf_str h.1, wf_ColS hB x.2.1 h.2.1, wf_StringS hB x.2.2 h.2.2⟩
abbrev K_TableS : Kd := .sl K_Table
theorem wf_TableS {B : Kd → Nat} (hB : ∀ g, 1 ≤ B g) (x : T_TableS) (h : Wf B K_TableS x) : sm_TableS 140737488355328 x := ⟨wf_len (hB _) h.1, fun y hy => wf_Table hB y (h.2 y hy)⟩
abbrev K_Cat : Kd := K_TableS
theorem wf_Cat {B : Kd → Nat} (hB : ∀ g, 1 ≤ B g) (x : T_Cat) (h : Wf B K_Cat x) : sm_Cat 140737488355328 x := wf_TableS hB x h
abbrev K_Row : Kd := K_ValS
theorem wf_Row {B : Kd → Nat} (hB : ∀ g, 1 ≤ B g) (x : T_Row) (h : Wf B K_Row x) : sm_Row 140737488355328 x := wf_ValS hB x h
abbrev K_RowS : Kd := .sl K_Row
theorem wf_RowS {B : Kd → Nat} (hB : ∀ g, 1 ≤ B g) (x : T_RowS) (h : Wf B K_RowS x) : sm_RowS 140737488355328 x := ⟨wf_len (hB _) h.1, fun y hy => wf_Row hB y (h.2 y hy)⟩
abbrev K_Rows : Kd := K_RowS
theorem wf_Rows {B : Kd → Nat} (hB : ∀ g, 1 ≤ B g) (x : T_Rows) (h : Wf B K_Rows x) : sm_Rows 140737488355328 x := wf_RowS hB x h
abbrev K_RowsS : Kd := .sl K_Rows
theorem wf_RowsS {B : Kd → Nat} (hB : ∀ g, 1 ≤ B g) (x : T_RowsS) (h : Wf B K_RowsS x) : sm_RowsS 140737488355328 x := ⟨wf_len (hB _) h.1, fun y hy => wf_Rows hB y (h.2 y hy)⟩
abbrev K_Db : Kd := .pair K_Cat (K_RowsS)
theorem wf_Db {B : Kd → Nat} (hB : ∀ g, 1 ≤ B g) (x : T_Db) (h : Wf B K_Db x) : sm_Db 140737488355328 x := ⟨wf_Cat hB x.1 h.1, wf_RowsS hB x.2 h.2⟩
abbrev K_Ddl : Kd := .pair (.int .i64) (.pair .str (.pair K_ColS (.pair K_StringS (.pair .str (.str)))))
theorem wf_Ddl {B : Kd → Nat} (hB : ∀ g, 1 ≤ B g) (x : T_Ddl) (h : Wf B K_Ddl x) : sm_Ddl 140737488355328 x := ⟨wf_str h.2.1, wf_ColS hB x.2.2.1 h.2.2.1, wf_StringS hB x.2.2.2.1 h.2.2.2.1, wf_str h.2.2.2.2.1, wf_str h.2.2.2.2.2⟩
abbrev K_Stmt : Kd := .pair (.int .i64) (.pair .str (.pair K_ValS (.pair K_Row (K_Ddl))))
theorem wf_Stmt {B : Kd → Nat} (hB : ∀ g, 1 ≤ B g) (x : T_Stmt) (h : Wf B K_Stmt x) : sm_Stmt 140737488355328 x := ⟨wf_str h.2.1, wf_ValS hB x.2.2.1 h.2.2.1, wf_Row hB x.2.2.2.1 h.2.2.2.1, wf_Ddl hB x.2.2.2.2 h.2.2.2.2⟩
abbrev K_StmtS : Kd := .sl K_Stmt
theorem wf_StmtS {B : Kd → Nat} (hB : ∀ g, 1 ≤ B g) (x : T_StmtS) (h : Wf B K_StmtS x) : sm_StmtS 140737488355328 x := ⟨wf_len (hB _) h.1, fun y hy => wf_Stmt hB y (h.2 y hy)⟩
abbrev K_Rec : Kd := .pair (.int .i64) (.pair (.int .i64) (K_Stmt))
theorem wf_Rec {B : Kd → Nat} (hB : ∀ g, 1 ≤ B g) (x : T_Rec) (h : Wf B K_Rec x) : sm_Rec 140737488355328 x := wf_Stmt hB x.2.2 h.2.2
abbrev K_RecS : Kd := .sl K_Rec
theorem wf_RecS {B : Kd → Nat} (hB : ∀ g, 1 ≤ B g) (x : T_RecS) (h : Wf B K_RecS x) : sm_RecS 140737488355328 x := ⟨wf_len (hB _) h.1, fun y hy => wf_Rec hB y (h.2 y hy)⟩
abbrev K_ByteS : Kd := .sl (.int .u8)
theorem wf_ByteS {B : Kd → Nat} (hB : ∀ g, 1 ≤ B g) (x : T_ByteS) (h : Wf B K_ByteS x) : sm_ByteS 140737488355328 x := ⟨wf_len (hB _) h.1, fun y hy => h.2 y hy⟩
abbrev K_IntS : Kd := .sl (.int .i64)
theorem wf_IntS {B : Kd → Nat} (hB : ∀ g, 1 ≤ B g) (x : T_IntS) (h : Wf B K_IntS x) : sm_IntS 140737488355328 x := ⟨wf_len (hB _) h.1, fun y hy => trivial⟩
abbrev E0 : ByteArray := ⟨#[]⟩
/-! ### words, numbers, values -/
theorem within_ok : EV fun n => ∀ a b c, impl_within n a b c = some (decide (b ≤ a ∧ a ≤ c)) := EV.true.up fun n _ a b c => by
  simp only [impl_within]
  by_cases h : b ≤ a <;> simp [h]
theorem l01Num_ok : EV fun n => ∀ a, spec_l01Num n a = some (decide (-1099511627775 ≤ a ∧ a ≤ 1099511627775)) := EV.true.up fun n _ a => by
  simp only [spec_l01Num]
  by_cases h : -1099511627775 ≤ a <;> simp [h]
def lower (b : UInt8) : Bool := decide (97 ≤ b.toNat ∧ b.toNat ≤ 122)
def cWordOk (s : ByteArray) : Bool := s.data.toList.all lower && decide (1 ≤ s.size ∧ s.size ≤ 8)
theorem spec_WordOk_ok : EV fun n => ∀ s : ByteArray, s.size ≤ 1048576 → spec_WordOk n s = some (cWordOk s) := (EV.gt 1048576).up fun n h s hs => by
  rw [spec_WordOk]
  refine (alongT s (fun j k (_ : Unit) => spec_WordOk_L1 n j s (k : Int)) (fun t _ => some (t.all lower && decide (1 ≤ s.size ∧ s.size ≤ 8))) (fun j _ => ?_) (fun j k x t _ hd hk hb ih => ?_) (by omega) ())
  · simp only [spec_WordOk_L1, lt_cast, Nat.lt_irrefl, decide_false, cond_false, List.all_nil, Bool.true_and]
    by_cases h1 : (1 : Int) ≤ (s.size : Int)
    · simp only [decide_eq_true h1, cond_true]; congr 1; exact decide_eq_decide.mpr (by omega)
    · simp only [decide_eq_false h1, cond_false]; congr 1; exact (decide_eq_false (by omega)).symm
  · simp only [spec_WordOk_L1, lt_cast, decide_eq_true hk, inR_true hk, cond_true, hb, wrap_succ hk (by omega), List.all_cons]
    have := ih ()
    rw [this]
    by_cases h1 : (x.toNat : Int) < 97
    · have : lower x = false := decide_eq_false (by omega)
      simp only [decide_eq_true h1, cond_true, this, Bool.false_and]
    · by_cases h2 : (122 : Int) < (x.toNat : Int)
      · have : lower x = false := decide_eq_false (by omega)
        simp only [decide_eq_true h2, decide_eq_false h1, cond_true, cond_false, this, Bool.false_and]
      · have : lower x = true := decide_eq_true (by omega)
        simp only [decide_eq_false h2, decide_eq_false h1, cond_false, this, Bool.true_and]
theorem impl_WordOk_ok : EV fun n => ∀ s : ByteArray, s.size ≤ 1048576 → impl_WordOk n s = some (cWordOk s) := (within_ok.and (EV.gt 1048576)).up fun n ⟨hw, h⟩ s hs => by
  rw [impl_WordOk]
  refine (alongT s (fun j k (_ : Unit) => impl_WordOk_L1 n j s (k : Int)) (fun t _ => some (t.all lower && decide (1 ≤ s.size ∧ s.size ≤ 8))) (fun j _ => ?_) (fun j k x t _ hd hk hb ih => ?_) (by omega) ())
  · simp only [impl_WordOk_L1, lt_cast, Nat.lt_irrefl, decide_false, cond_false, List.all_nil, Bool.true_and, hw, Option.bind_some]
    congr 1; exact decide_eq_decide.mpr (by omega)
  · simp only [impl_WordOk_L1, lt_cast, decide_eq_true hk, inR_true hk, cond_true, hb, wrap_succ hk (by omega), List.all_cons]
    have := ih ()
    rw [this]
    by_cases h1 : (x.toNat : Int) < 97
    · have : lower x = false := decide_eq_false (by omega)
      simp only [decide_eq_true h1, cond_true, this, Bool.false_and]
    · by_cases h2 : (122 : Int) < (x.toNat : Int)
      · have : lower x = false := decide_eq_false (by omega)
        simp only [decide_eq_true h2, decide_eq_false h1, cond_true, cond_false, this, Bool.false_and]
      · have : lower x = true := decide_eq_true (by omega)
        simp only [decide_eq_false h2, decide_eq_false h1, cond_false, this, Bool.true_and]
def cValOk (a b : Int) (s : ByteArray) : Bool :=
  if a = 0 then decide (b = 0) && decide (s = E0) else if a = 1 then decide (b = 0 ∨ b = 1) && decide (s = E0) else
  if a = 2 then decide (-1099511627775 ≤ b ∧ b ≤ 1099511627775) && decide (s = E0) else if a = 3 then decide (b = 0) && decide (s.size ≤ 30) else false
theorem spec_ValOk_ok : EV fun n => ∀ a b s, spec_ValOk n a b s = some (cValOk a b s) := l01Num_ok.up fun n h a b s => by
  have hz : decide ((s.size : Int) ≤ 30) = decide (s.size ≤ 30) := decide_eq_decide.mpr (by omega)
  simp only [spec_ValOk, h, text_eq, Option.bind_some, int_beq, hz]
  generalize he : decide (s = E0) = e
  have he' : decide (s = ⟨#[]⟩) = e := he
  simp only [cValOk, he, he']
  by_cases h0 : a = 0
  · subst h0; by_cases hb : b = 0 <;> simp [hb]
  · by_cases h1 : a = 1
    · subst h1; by_cases hb : b = 0
      · simp [hb]
      · by_cases hb1 : b = 1 <;> simp [hb, hb1]
    · by_cases h2 : a = 2
      · subst h2; by_cases hb : -1099511627775 ≤ b ∧ b ≤ 1099511627775 <;> simp [hb]
      · by_cases h3 : a = 3
        · subst h3; by_cases hb : b = 0 <;> simp [hb]
        · simp [h0, h1, h2, h3]
theorem impl_ValOk_ok : EV fun n => ∀ a b s, impl_ValOk n a b s = some (cValOk a b s) := within_ok.up fun n h a b s => by
  have hz : decide ((s.size : Int) ≤ 30) = decide (s.size ≤ 30) := decide_eq_decide.mpr (by omega)
  simp only [impl_ValOk, h, text_eq, Option.bind_some, int_beq, hz]
  generalize he : decide (s = E0) = e
  have he' : decide (s = ⟨#[]⟩) = e := he
  simp only [cValOk, he, he']
  by_cases h0 : a = 0
  · subst h0; by_cases hb : b = 0 <;> simp [hb]
  · by_cases h1 : a = 1
    · subst h1; by_cases hb : b = 0
      · simp [hb]
      · by_cases hb1 : b = 1
        · simp [hb, hb1]
        · have : ¬ (0 ≤ b ∧ b ≤ 1) := by omega
          simp [hb, hb1, this]
    · by_cases h2 : a = 2
      · subst h2; by_cases hb : -1099511627775 ≤ b ∧ b ≤ 1099511627775 <;> simp [hb]
      · by_cases h3 : a = 3
        · subst h3; by_cases hb : b = 0 <;> simp [hb]
        · simp [h0, h1, h2, h3]
def cValLess (x y : T_Val) : Bool :=
  cValOk x.1 x.2.1 x.2.2 && cValOk y.1 y.2.1 y.2.2 && (if x.1 = y.1 then (if x.2.1 = y.2.1 then Op.bytesLess x.2.2.toList y.2.2.toList else decide (x.2.1 < y.2.1)) else decide (x.1 < y.1))
theorem spec_ValLess_ok : EV fun n => ∀ x y : T_Val, spec_ValLess n x.1 x.2.1 x.2.2 y.1 y.2.1 y.2.2 = some (cValLess x y) := spec_ValOk_ok.up fun n h x y => by
  obtain ⟨a, b, s⟩ := x; obtain ⟨c, d, t⟩ := y
  simp only [spec_ValLess, h, Option.bind_some, cValLess, int_beq, int_bne]
  cases cValOk a b s <;> cases cValOk c d t <;> simp
  by_cases h1 : a = c
  · by_cases h2 : b = d
    · simp [h1, h2]
    · by_cases h3 : b < d <;> simp [h1, h2, h3]
  · simp [h1]
theorem impl_ValLess_ok : EV fun n => ∀ x y : T_Val, impl_ValLess n x.1 x.2.1 x.2.2 y.1 y.2.1 y.2.2 = some (cValLess x y) := impl_ValOk_ok.up fun n h x y => by
  obtain ⟨a, b, s⟩ := x; obtain ⟨c, d, t⟩ := y
  simp only [impl_ValLess, h, Option.bind_some, cValLess, int_beq, int_bne]
  cases cValOk a b s <;> cases cValOk c d t <;> simp
  by_cases h1 : a = c
  · by_cases h2 : b = d
    · simp [h1, h2]
    · by_cases h3 : b < d <;> simp [h1, h2, h3]
  · simp [h1]
def null : T_Val := (0, 0, E0)
def cColOk (x : T_Col) : Bool :=
  cWordOk x.1 && decide (1 ≤ x.2.1 ∧ x.2.1 ≤ 3) && (if x.2.2.2.1 then cValOk x.2.2.2.2.1 x.2.2.2.2.2.1 x.2.2.2.2.2.2 && (decide (x.2.2.2.2.1 = x.2.1) || decide (x.2.2.2.2.1 = 0) && !x.2.2.1) else decide (x.2.2.2.2 = null))
theorem null_eq (a b : Int) (s : ByteArray) : ((a == (0 : Int)) && ((b == (0 : Int)) && (decide (s = E0) && true))) = decide ((a, b, s) = null) := by
  by_cases h1 : a = 0 <;> by_cases h2 : b = 0 <;> by_cases h3 : s = E0 <;> simp [null, h1, h2, h3]
theorem spec_ColOk_ok : EV fun n => ∀ x : T_Col, sm_Col 1048576 x → spec_ColOk n x.1 x.2.1 x.2.2.1 x.2.2.2.1 x.2.2.2.2.1 x.2.2.2.2.2.1 x.2.2.2.2.2.2 = some (cColOk x) := (spec_WordOk_ok.and spec_ValOk_ok).up fun n ⟨h1, h2⟩ x hs => by
  obtain ⟨a, t, nt, hs', v⟩ := x
  obtain ⟨b, c, s⟩ := v
  have hw := h1 a hs.1
  simp only [spec_ColOk, hw, h2, Option.bind_some, text_eq, null_eq, cColOk]
  cases cWordOk a
  · simp
  by_cases c1 : t < 1
  · simp [c1]; omega
  by_cases c2 : 3 < t
  · simp [c1, c2]; omega
  have c3 : 1 ≤ t ∧ t ≤ 3 := by omega
  simp only [Bool.not_true, cond_false, decide_eq_false c1, decide_eq_false c2, decide_eq_true c3, Bool.true_and]
  cases hs' <;> simp
  cases hv : cValOk b c s
  · simp
  by_cases hn : (b, c, s) = null
  · have h0 : ¬ (0 : Int) = t := by omega
    simp only [null, Prod.mk.injEq] at hn; obtain ⟨rfl, rfl, rfl⟩ := hn
    cases nt <;> simp [null, h0]
  · by_cases hbt : b = t
    · subst hbt; cases nt <;> simp [hn, int_beq]
    · by_cases hb : b = 0
      · exfalso
        subst hb
        simp [cValOk] at hv
        exact hn (by simp [null, hv])
      · cases nt <;> simp [hn, hbt, hb, int_beq]
theorem impl_ColOk_ok : EV fun n => ∀ x : T_Col, sm_Col 1048576 x → impl_ColOk n x.1 x.2.1 x.2.2.1 x.2.2.2.1 x.2.2.2.2.1 x.2.2.2.2.2.1 x.2.2.2.2.2.2 = some (cColOk x) := (impl_WordOk_ok.and (impl_ValOk_ok.and within_ok)).up fun n ⟨h1, h2, h3⟩ x hs => by
  obtain ⟨a, t, nt, hs', v⟩ := x
  obtain ⟨b, c, s⟩ := v
  have hw := h1 a hs.1
  simp only [impl_ColOk, hw, h2, h3, Option.bind_some, text_eq, null_eq, cColOk]
  cases cWordOk a
  · simp
  by_cases c3 : 1 ≤ t ∧ t ≤ 3
  · simp only [Bool.not_true, cond_false, decide_eq_true c3, Bool.true_and]
    cases hs'
    · by_cases hn : (b, c, s) = null
      · have : cValOk b c s = true := by
          simp [null] at hn; obtain ⟨rfl, rfl, rfl⟩ := hn; rfl
        simp [hn, this]
      · cases cValOk b c s <;> simp [hn]
    · cases cValOk b c s <;> simp
      by_cases hbt : b = t
      · simp [hbt, int_beq]
      · by_cases hb : b = 0
        · subst hb; cases nt <;> simp [hbt, int_beq]
        · simp [hbt, hb, int_beq]
  · simp [decide_eq_false c3]
theorem val_eq (x y : T_Val) : ((x.1 == y.1) && ((x.2.1 == y.2.1) && ((x.2.2.toList == y.2.2.toList) && true))) = decide (x = y) := by
  obtain ⟨a, b, s⟩ := x; obtain ⟨c, d, t⟩ := y
  simp only [text_eq, int_beq]
  by_cases h1 : a = c <;> by_cases h2 : b = d <;> by_cases h3 : s = t <;> simp [h1, h2, h3]
def cKeyLess : List T_Val → List T_Val → Bool
  | [], [] => false
  | [], _ :: _ => true
  | _ :: _, [] => false
  | x :: s, y :: t => if x = y then cKeyLess s t else cValLess x y
theorem spec_KeyLess_ok : EV fun n => ∀ x y : T_ValS, x.length ≤ 1048576 → spec_KeyLess n x y = some (cKeyLess x y) := (spec_ValLess_ok.and (EV.gt 1048576)).up fun n ⟨h, hn⟩ x y hx => by
  rw [spec_KeyLess]
  have key : ∀ (s : T_ValS) (j k : Nat), x.drop k = s → k ≤ x.length → k ≤ y.length → s.length < j → spec_KeyLess_L1 n j x y (k : Int) = some (cKeyLess s (y.drop k)) := by
    intro s
    induction s with
    | nil =>
      intro j k hd hk hky hj
      obtain ⟨j, rfl⟩ : ∃ i, j = i + 1 := ⟨j - 1, by simp at hj; omega⟩
      have : k = x.length := by
        rcases Nat.lt_or_ge k x.length with h' | h'
        · rw [List.drop_eq_getElem_cons h'] at hd; cases hd
        · omega
      subst this
      simp only [spec_KeyLess_L1, lt_cast, Nat.lt_irrefl, decide_false, cond_false]
      cases hy : y.drop x.length with
      | nil =>
        have : y.length ≤ x.length := List.drop_eq_nil_iff.mp hy
        rw [decide_eq_false (by omega)]; rfl
      | cons z t =>
        have : x.length < y.length := (drop_cons hy z).1
        rw [decide_eq_true this]; rfl
    | cons a s ih =>
      intro j k hd hk hky hj
      obtain ⟨j, rfl⟩ : ∃ i, j = i + 1 := ⟨j - 1, by simp at hj; omega⟩
      obtain ⟨h1, h2, h3⟩ := drop_cons hd (0, 0, E0)
      simp only [spec_KeyLess_L1, lt_cast, decide_eq_true h1, cond_true]
      cases hy : y.drop k with
      | nil =>
        have : y.length ≤ k := List.drop_eq_nil_iff.mp hy
        rw [decide_eq_false (by omega), cond_false, decide_eq_false (by omega)]; rfl
      | cons b t =>
        obtain ⟨g1, g2, g3⟩ := drop_cons hy (0, 0, E0)
        simp only [decide_eq_true g1, cond_true, inR_true h1, inR_true g1, Int.toNat_natCast, wrap_succ h1 (by omega)]
        rw [show x.getD k (0, 0, ⟨#[]⟩) = a from h2, show y.getD k (0, 0, ⟨#[]⟩) = b from g2, val_eq, h, ih j (k + 1) h3 (by omega) (by omega) (by simp at hj; omega), g3]
        simp only [cKeyLess, bif_step, Option.bind_some]
        by_cases e : a = b <;> simp [e]
  exact key x n 0 rfl (by omega) (by omega) (by omega)
theorem impl_KeyLess_L1_eq {n : Nat} (h : ∀ x y : T_Val, impl_ValLess n x.1 x.2.1 x.2.2 y.1 y.2.1 y.2.2 = spec_ValLess n x.1 x.2.1 x.2.2 y.1 y.2.1 y.2.2) : ∀ (j : Nat) (x y : T_ValS) (i : Int), impl_KeyLess_L1 n j x y i = spec_KeyLess_L1 n j x y i
  | 0, _, _, _ => rfl
  | j + 1, x, y, i => by simp only [impl_KeyLess_L1, spec_KeyLess_L1, h, impl_KeyLess_L1_eq h j]
theorem impl_KeyLess_ok : EV fun n => ∀ x y : T_ValS, x.length ≤ 1048576 → impl_KeyLess n x y = some (cKeyLess x y) := by
  obtain ⟨N, h⟩ := spec_KeyLess_ok.and (spec_ValLess_ok.and impl_ValLess_ok)
  refine ⟨N + 1, fun n hn x y hx => ?_⟩
  obtain ⟨m, rfl⟩ : ∃ m, n = m + 1 := ⟨n - 1, by omega⟩
  have h1 := (h (m + 1) (by omega)).1 x y hx
  have h2 := (h m (by omega)).2
  rw [spec_KeyLess] at h1
  rw [impl_KeyLess, impl_KeyLess_L1_eq (fun x y => by rw [h2.1, h2.2])]
  exact h1
theorem spec_l03SameVals_ok : EV fun n => ∀ x y : T_ValS, x.length ≤ 1048576 → spec_l03SameVals n x y = some (decide (x = y)) := (EV.gt 1048576).up fun n hn x y hx => by
  rw [spec_l03SameVals]
  by_cases hl : x.length = y.length
  · have : ((x.length : Int) != (y.length : Int)) = false := by simp [hl]
    simp only [this, cond_false]
    refine (eq_loop x y hl (fun j k => spec_l03SameVals_L1 n j x y (x.length : Int) (k : Int)) (fun j => by simp only [spec_l03SameVals_L1, lt_cast, Nat.lt_irrefl, decide_false, cond_false]) (fun j k hk hk2 => ?_) x n 0 rfl (by omega) (by omega)).trans (by simp)
    simp only [spec_l03SameVals_L1, lt_cast, decide_eq_true hk, inR_true hk, inR_true hk2, Int.toNat_natCast, getD_at hk, getD_at hk2, cond_true, wrap_succ hk (by omega), val_eq]
    exact eq_step _ _ _
  · have : ((x.length : Int) != (y.length : Int)) = true := by simp; omega
    simp only [this, cond_true]
    congr 1; exact (decide_eq_false fun h => hl (by rw [h])).symm
theorem slices_EqualVal_ok : EV fun n => ∀ x y : T_ValS, x.length ≤ 1048576 → slices_Equal_impl_Val_impl_Val n x y = some (decide (x = y)) := (EV.gt 1048576).up fun n hn x y hx => by
  rw [slices_Equal_impl_Val_impl_Val]
  by_cases hl : x.length = y.length
  · have : ((x.length : Int) != (y.length : Int)) = false := by simp [hl]
    simp only [this, cond_false]
    refine (eq_loop x y hl (fun j k => slices_Equal_impl_Val_impl_Val_L1 n j x y (x.length : Int) (k : Int)) (fun j => by simp only [slices_Equal_impl_Val_impl_Val_L1, lt_cast, Nat.lt_irrefl, decide_false, cond_false]) (fun j k hk hk2 => ?_) x n 0 rfl (by omega) (by omega)).trans (by simp)
    simp only [slices_Equal_impl_Val_impl_Val_L1, lt_cast, decide_eq_true hk, inR_true hk, inR_true hk2, Int.toNat_natCast, getD_at hk, getD_at hk2, cond_true, wrap_succ hk (by omega), val_eq]
    exact eq_step _ _ _
  · have : ((x.length : Int) != (y.length : Int)) = true := by simp; omega
    simp only [this, cond_true]
    congr 1; exact (decide_eq_false fun h => hl (by rw [h])).symm
theorem impl_SameRows_ok : EV fun n => ∀ x y : T_RowS, sm_RowS 1048576 x → impl_SameRows n x y = some (decide (x = y)) :=
  ((slices_EqualVal_ok.up (q := fun n => ∀ x y : T_ValS, x.length ≤ 1048576 → impl_SameRows_1 n x y = some (decide (x = y))) fun n h x y hx => by simp only [impl_SameRows_1, h x y hx, Option.bind_some]).and (EV.gt 1048576)).up
    (q := fun n => ∀ x y : T_RowS, sm_RowS 1048576 x → slices_EqualFunc_impl_Row_impl_Row_impl_Row_impl_Row__impl_SameRows_1 n x y = some (decide (x = y))) (fun n ⟨h, hn⟩ x y hx => by
  have hlen := hx.1
  rw [slices_EqualFunc_impl_Row_impl_Row_impl_Row_impl_Row__impl_SameRows_1]
  by_cases hl : x.length = y.length
  · have : ((x.length : Int) != (y.length : Int)) = false := by simp [hl]
    simp only [this, cond_false]
    refine (eq_loop x y hl (fun j k => slices_EqualFunc_impl_Row_impl_Row_impl_Row_impl_Row__impl_SameRows_1_L1 n j y x (x.length : Int) (k : Int)) (fun j => by simp only [slices_EqualFunc_impl_Row_impl_Row_impl_Row_impl_Row__impl_SameRows_1_L1, lt_cast, Nat.lt_irrefl, decide_false, cond_false]) (fun j k hk hk2 => ?_) x n 0 rfl (by omega) (by omega)).trans (by simp)
    simp only [slices_EqualFunc_impl_Row_impl_Row_impl_Row_impl_Row__impl_SameRows_1_L1, lt_cast, decide_eq_true hk, inR_true hk, inR_true hk2, Int.toNat_natCast, getD_at hk, getD_at hk2, cond_true, wrap_succ hk (by omega), h x[k] y[k] (hx.2 _ (List.getElem_mem hk)).1, Option.bind_some]
    exact eq_step _ _ _
  · have : ((x.length : Int) != (y.length : Int)) = true := by simp; omega
    simp only [this, cond_true]
    congr 1; exact (decide_eq_false fun h => hl (by rw [h])).symm) |>.up fun n h x y hx => by simp only [impl_SameRows, h x y hx, Option.bind_some]
def cColAt (cs : T_ColS) (name : ByteArray) : Int := idx (fun c => decide (c.1 = name)) cs
theorem spec_ColAt_ok : EV fun n => ∀ (a : ByteArray) (cs : T_ColS) (ks : T_StringS) (s : ByteArray), cs.length ≤ 1048576 → spec_ColAt n a cs ks s = some (cColAt cs s) := (EV.gt 1048576).up fun n hn a cs ks s hl => by
  rw [spec_ColAt]
  refine find_loop (fun c => decide (c.1 = s)) cs (fun j k => spec_ColAt_L1 n j s cs (cs.length : Int) (k : Int)) (fun j => by simp only [spec_ColAt_L1, lt_cast, Nat.lt_irrefl, decide_false, cond_false]) (fun j k hk => ?_) cs n 0 rfl (by omega) (by omega)
  simp only [spec_ColAt_L1, lt_cast, decide_eq_true hk, inR_true hk, Int.toNat_natCast, getD_at hk, cond_true, wrap_succ hk (by omega), text_eq]
  exact bif_step' _ _
theorem impl_ColAt_ok : EV fun n => ∀ (a : ByteArray) (cs : T_ColS) (ks : T_StringS) (s : ByteArray), cs.length ≤ 1048576 → impl_ColAt n a cs ks s = some (idx (fun c => decide (c.1 = s)) cs) :=
  ((EV.true.up (q := fun n => ∀ (x : T_Col) (s : ByteArray), impl_ColAt_1 n x.1 x.2.1 x.2.2.1 x.2.2.2.1 x.2.2.2.2.1 x.2.2.2.2.2.1 x.2.2.2.2.2.2 s = some (decide (x.1 = s))) fun n h x s => by simp only [impl_ColAt_1, text_eq]).and (EV.gt 1048576)).up
    (q := fun n => ∀ (cs : T_ColS) (s : ByteArray), cs.length ≤ 1048576 → slices_IndexFunc_impl_Col_impl_Col__impl_ColAt_1 n cs s = some (idx (fun c => decide (c.1 = s)) cs)) (fun n ⟨h, hn⟩ cs s hl => by
    rw [slices_IndexFunc_impl_Col_impl_Col__impl_ColAt_1]
    refine find_loop (fun c => decide (c.1 = s)) cs (fun j k => slices_IndexFunc_impl_Col_impl_Col__impl_ColAt_1_L1 n j cs s (cs.length : Int) (k : Int)) (fun j => by simp only [slices_IndexFunc_impl_Col_impl_Col__impl_ColAt_1_L1, lt_cast, Nat.lt_irrefl, decide_false, cond_false]) (fun j k hk => ?_) cs n 0 rfl (by omega) (by omega)
    simp only [slices_IndexFunc_impl_Col_impl_Col__impl_ColAt_1_L1, lt_cast, decide_eq_true hk, inR_true hk, Int.toNat_natCast, getD_at hk, cond_true, wrap_succ hk (by omega), h, Option.bind_some]
    exact bif_step' _ _) |>.up fun n h a cs ks s hl => by simp only [impl_ColAt, h cs s hl, Option.bind_some]
def keyStep (cs : T_ColS) (key : ByteArray) (last : Int) : Option Int := if last < cColAt cs key ∧ (cs.getD (cColAt cs key).toNat (E0, (0, (false, (false, null))))).2.2.1 = true then some (cColAt cs key) else none
def cTableOk (x : T_Table) : Bool :=
  cWordOk x.1 && decide (1 ≤ x.2.1.length ∧ x.2.1.length ≤ 8) && decide (1 ≤ x.2.2.length) && allFrom (fun c k => cColOk c && decide (cColAt x.2.1 c.1 = (k : Int))) x.2.1 0 && (runs (keyStep x.2.1) x.2.2 (-1)).isSome
theorem spec_TableOk_ok : EV fun n => ∀ x : T_Table, sm_Table 1048576 x → spec_TableOk n x.1 x.2.1 x.2.2 = some (cTableOk x) := (spec_WordOk_ok.and (spec_ColOk_ok.and (spec_ColAt_ok.and (EV.gt 1048576)))).up fun n ⟨h1, h2, h3, hn⟩ x hs => by
  obtain ⟨a, cs, ks⟩ := x
  obtain ⟨s1, s2, s3⟩ := hs
  have s1 : a.size ≤ 1048576 := s1
  have s2l : cs.length ≤ 1048576 := s2.1
  have s3l : ks.length ≤ 1048576 := s3.1
  have hL2 : spec_TableOk_L2 n n (-1) ks (ks.length : Int) 0 a cs ks = after (runs (keyStep cs) ks (-1)) (some false) fun _ => some true := by
    refine run_loop ks (keyStep cs) (fun j k s => spec_TableOk_L2 n j s ks (ks.length : Int) (k : Int) a cs ks) (fun _ => some true) (some false) (fun s => -1 ≤ s) (fun x hx s s' h h' => ?_) (fun j s _ => by simp only [spec_TableOk_L2, lt_cast, Nat.lt_irrefl, decide_false, cond_false]) (fun j k s hk hs => ?_) ks n 0 (-1) rfl (by omega) (by omega) (by decide)
    · simp only [keyStep] at h'; split at h'
      · obtain rfl := Option.some.inj h'; exact (idx_lt _ _).1
      · cases h'
    · simp only [spec_TableOk_L2, lt_cast, decide_eq_true hk, inR_true hk, Int.toNat_natCast, getD_at hk, cond_true, wrap_succ hk (by omega), h3 _ _ _ _ s2l, Option.bind_some, keyStep]
      obtain ⟨i1, i2⟩ : -1 ≤ cColAt cs ks[k] ∧ cColAt cs ks[k] < (cs.length : Int) := idx_lt _ _
      by_cases hc : cColAt cs ks[k] ≤ s
      · rw [decide_eq_true hc, if_neg (by omega)]; rfl
      · have : inR (cColAt cs ks[k]) cs.length = true := by simp only [inR]; exact decide_eq_true (by omega)
        rw [decide_eq_false hc, this]
        simp only [cond_false, cond_true]
        cases hb : (cs.getD (cColAt cs ks[k]).toNat (E0, (0, (false, (false, null))))).2.2.1
        · rw [show (cs.getD (cColAt cs ks[k]).toNat (⟨#[]⟩, (0, (false, (false, (0, (0, ⟨#[]⟩))))))).2.2.1 = false from hb]; simp [after]
        · rw [show (cs.getD (cColAt cs ks[k]).toNat (⟨#[]⟩, (0, (false, (false, (0, (0, ⟨#[]⟩))))))).2.2.1 = true from hb, if_pos ⟨by omega, rfl⟩]; rfl
  have hL1 : spec_TableOk_L1 n n cs (cs.length : Int) 0 a cs ks = if allFrom (fun c k => cColOk c && decide (cColAt cs c.1 = (k : Int))) cs 0 = true then (after (runs (keyStep cs) ks (-1)) (some false) fun _ => some true) else some false := by
    refine allFrom_loop _ cs (fun j k => spec_TableOk_L1 n j cs (cs.length : Int) (k : Int) a cs ks) _ (fun j => by simp only [spec_TableOk_L1, lt_cast, Nat.lt_irrefl, decide_false, cond_false, hL2]) (fun j k hk => ?_) cs n 0 rfl (by omega) (by omega)
    simp only [spec_TableOk_L1, lt_cast, decide_eq_true hk, inR_true hk, Int.toNat_natCast, getD_at hk, cond_true, wrap_succ hk (by omega), h3 _ _ _ _ s2l, Option.bind_some, h2 cs[k] (s2.2 _ (List.getElem_mem hk)), int_bne]
    by_cases e : cColAt cs cs[k].1 = (k : Int) <;> cases cColOk cs[k] <;> simp [e]
  simp only [spec_TableOk, h1 a s1, Option.bind_some, hL1, cTableOk]
  cases cWordOk a
  · simp
  by_cases c1 : (cs.length : Int) < 1
  · rw [decide_eq_true c1, decide_eq_false (show ¬ (1 ≤ cs.length ∧ cs.length ≤ 8) by omega)]; simp
  by_cases c2 : (8 : Int) < (cs.length : Int)
  · rw [decide_eq_false c1, decide_eq_true c2, decide_eq_false (show ¬ (1 ≤ cs.length ∧ cs.length ≤ 8) by omega)]; simp
  rw [decide_eq_false c1, decide_eq_false c2, decide_eq_true (show (1 ≤ cs.length ∧ cs.length ≤ 8) by omega)]
  by_cases c3 : (ks.length : Int) < 1
  · rw [decide_eq_true c3, decide_eq_false (show ¬ 1 ≤ ks.length by omega)]; simp
  rw [decide_eq_false c3, decide_eq_true (show 1 ≤ ks.length by omega)]
  simp only [Bool.not_true, cond_false, Bool.true_and]
  cases allFrom (fun c k => cColOk c && decide (cColAt cs c.1 = (k : Int))) cs 0
  · simp
  · cases runs (keyStep cs) ks (-1) <;> simp [after]
theorem impl_TableOk_ok : EV fun n => ∀ x : T_Table, sm_Table 1048576 x → impl_TableOk n x.1 x.2.1 x.2.2 = some (cTableOk x) := (impl_WordOk_ok.and (impl_ColOk_ok.and (impl_ColAt_ok.and (within_ok.and (EV.gt 1048576))))).up fun n ⟨h1, h2, h3, h4, hn⟩ x hs => by
  obtain ⟨a, cs, ks⟩ := x
  obtain ⟨s1, s2, s3⟩ := hs
  have s1 : a.size ≤ 1048576 := s1
  have s2l : cs.length ≤ 1048576 := s2.1
  have s3l : ks.length ≤ 1048576 := s3.1
  have h3 : ∀ s, impl_ColAt n a cs ks s = some (cColAt cs s) := fun s => h3 _ _ _ _ s2l
  have hL2 : impl_TableOk_L2 n n (-1) ks (ks.length : Int) 0 a cs ks = after (runs (keyStep cs) ks (-1)) (some false) fun _ => some (cWordOk a && decide (1 ≤ cs.length ∧ cs.length ≤ 8) && decide (1 ≤ ks.length)) := by
    refine run_loop ks (keyStep cs) (fun j k s => impl_TableOk_L2 n j s ks (ks.length : Int) (k : Int) a cs ks) (fun _ => some (cWordOk a && decide (1 ≤ cs.length ∧ cs.length ≤ 8) && decide (1 ≤ ks.length))) (some false) (fun s => -1 ≤ s) (fun x hx s s' h h' => ?_) (fun j s _ => ?_) (fun j k s hk hs => ?_) ks n 0 (-1) rfl (by omega) (by omega) (by decide)
    · simp only [keyStep] at h'; split at h'
      · obtain rfl := Option.some.inj h'; exact (idx_lt _ _).1
      · cases h'
    · simp only [impl_TableOk_L2, lt_cast, Nat.lt_irrefl, decide_false, cond_false, h1 a s1, h4, Option.bind_some]
      rw [show decide ((1 : Int) ≤ (cs.length : Int) ∧ (cs.length : Int) ≤ 8) = decide (1 ≤ cs.length ∧ cs.length ≤ 8) from decide_eq_decide.mpr (by omega), show decide ((0 : Int) < (ks.length : Int)) = decide (1 ≤ ks.length) from decide_eq_decide.mpr (by omega)]
      cases cWordOk a <;> cases decide (1 ≤ cs.length ∧ cs.length ≤ 8) <;> simp
    · simp only [impl_TableOk_L2, lt_cast, decide_eq_true hk, inR_true hk, Int.toNat_natCast, getD_at hk, cond_true, wrap_succ hk (by omega), h3, Option.bind_some, keyStep]
      obtain ⟨i1, i2⟩ : -1 ≤ cColAt cs ks[k] ∧ cColAt cs ks[k] < (cs.length : Int) := idx_lt _ _
      by_cases hc : cColAt cs ks[k] ≤ s
      · rw [decide_eq_true hc, if_neg (by omega)]; rfl
      · have : inR (cColAt cs ks[k]) cs.length = true := by simp only [inR]; exact decide_eq_true (by omega)
        rw [decide_eq_false hc, this]
        simp only [cond_false, cond_true]
        cases hb : (cs.getD (cColAt cs ks[k]).toNat (E0, (0, (false, (false, null))))).2.2.1
        · rw [show (cs.getD (cColAt cs ks[k]).toNat (⟨#[]⟩, (0, (false, (false, (0, (0, ⟨#[]⟩))))))).2.2.1 = false from hb]; simp [after]
        · rw [show (cs.getD (cColAt cs ks[k]).toNat (⟨#[]⟩, (0, (false, (false, (0, (0, ⟨#[]⟩))))))).2.2.1 = true from hb, if_pos ⟨by omega, rfl⟩]; rfl
  simp only [impl_TableOk]
  refine (allFrom_loop (fun c k => cColOk c && decide (cColAt cs c.1 = (k : Int))) cs (fun j k => impl_TableOk_L1 n j cs (cs.length : Int) (k : Int) a cs ks) _ (fun j => by simp only [impl_TableOk_L1, lt_cast, Nat.lt_irrefl, decide_false, cond_false]; exact hL2) (fun j k hk => ?_) cs n 0 rfl (by omega) (by omega)).trans ?_
  · simp only [impl_TableOk_L1, lt_cast, decide_eq_true hk, inR_true hk, Int.toNat_natCast, getD_at hk, cond_true, wrap_succ hk (by omega), h3, Option.bind_some, h2 cs[k] (s2.2 _ (List.getElem_mem hk)), int_bne]
    by_cases e : cColAt cs cs[k].1 = (k : Int) <;> cases cColOk cs[k] <;> simp [e]
  · simp only [cTableOk]
    cases allFrom (fun c k => cColOk c && decide (cColAt cs c.1 = (k : Int))) cs 0
    · simp
    · cases runs (keyStep cs) ks (-1) <;> simp [after]
theorem pred_cast {k : Nat} (h : 0 < k) (h2 : k ≤ 1048576) : IntKind.wrap .i64 ((k : Int) - (1 : Int)) = ((k - 1 : Nat) : Int) := by rw [wrap64] <;> omega
def fitsS (c : T_Col) (v : T_Val) : Bool := cValOk v.1 v.2.1 v.2.2 && (if v.1 = 0 then !c.2.2.1 else decide (v.1 = c.2.1))
def CZ : T_Col := (E0, (0, (false, (false, null))))
def cRowIn (cs : T_ColS) (r : T_ValS) : Bool := decide (r.length = cs.length) && allFrom (fun c k => fitsS c (r.getD k null)) cs 0
def cKeyOf (cs : T_ColS) (ks : T_StringS) (r : T_ValS) : T_ValS := ks.map fun key => r.getD (cColAt cs key).toNat null
theorem runs_keys {cs : T_ColS} : ∀ {ks : T_StringS} {last : Int}, (runs (keyStep cs) ks last).isSome = true → -1 ≤ last → ∀ key ∈ ks, 0 ≤ cColAt cs key ∧ (cs.getD (cColAt cs key).toNat CZ).2.2.1 = true
  | [], _, _, _, key, h => by simp at h
  | x :: t, last, h, hl, key, hk => by
    simp only [runs, keyStep] at h
    split at h
    · rename_i hc
      rcases List.mem_cons.mp hk with rfl | hk
      · exact ⟨by omega, hc.2⟩
      · exact runs_keys h (idx_lt _ _).1 key hk
    · simp at h
theorem table_facts {x : T_Table} (h : cTableOk x = true) : (∀ key ∈ x.2.2, 0 ≤ cColAt x.2.1 key ∧ cColAt x.2.1 key < (x.2.1.length : Int) ∧ (x.2.1.getD (cColAt x.2.1 key).toNat CZ).2.2.1 = true) ∧ (∀ c ∈ x.2.1, cColOk c = true) ∧ x.2.1.length ≤ 8 ∧ 1 ≤ x.2.1.length := by
  simp only [cTableOk, Bool.and_eq_true, decide_eq_true_eq] at h
  obtain ⟨⟨⟨⟨h1, h2⟩, h3⟩, h4⟩, h5⟩ := h
  refine ⟨fun key hk => ?_, fun c hc => ?_, h2.2, h2.1⟩
  · obtain ⟨k1, k2⟩ := runs_keys h5 (by omega) key hk
    exact ⟨k1, (idx_lt _ _).2, k2⟩
  · obtain ⟨i, hi, rfl⟩ := List.mem_iff_getElem.mp hc
    have := (allFrom_iff _ _ _).mp h4 i hi
    simp only [Bool.and_eq_true] at this
    exact this.1
theorem col_ty {c : T_Col} (h : cColOk c = true) : 1 ≤ c.2.1 ∧ c.2.1 ≤ 3 := by
  simp only [cColOk, Bool.and_eq_true, decide_eq_true_eq] at h
  exact h.1.2
theorem keyOf_len (cs : T_ColS) (ks : T_StringS) (r : T_ValS) : (cKeyOf cs ks r).length = ks.length := by simp [cKeyOf]
theorem getD_CZ {cs : T_ColS} {k : Nat} : cs.getD k (⟨#[]⟩, (0, (false, (false, (0, (0, ⟨#[]⟩)))))) = cs.getD k CZ := rfl
theorem getD_null {r : T_ValS} {k : Nat} : r.getD k (0, (0, ⟨#[]⟩)) = r.getD k null := rfl
theorem inR_int {i : Int} {n : Nat} (h1 : 0 ≤ i) (h2 : i < (n : Int)) : inR i n = true := by simp only [inR]; exact decide_eq_true ⟨h1, h2⟩
theorem spec_l03Fits_ok : EV fun n => ∀ (c : T_Col) (v : T_Val), spec_l03Fits n c.1 c.2.1 c.2.2.1 c.2.2.2.1 c.2.2.2.2.1 c.2.2.2.2.2.1 c.2.2.2.2.2.2 v.1 v.2.1 v.2.2 = some (fitsS c v) := spec_ValOk_ok.up fun n h c v => by
  simp only [spec_l03Fits, h, Option.bind_some, fitsS, int_beq]
  by_cases h0 : v.1 = 0 <;> cases cValOk v.1 v.2.1 v.2.2 <;> simp [h0]
theorem impl_stands_ok : EV fun n => ∀ (c : T_Col) (v : T_Val), c.2.1 ≠ 0 → impl_stands n c.1 c.2.1 c.2.2.1 c.2.2.2.1 c.2.2.2.2.1 c.2.2.2.2.2.1 c.2.2.2.2.2.2 v.1 v.2.1 v.2.2 = some (fitsS c v) := impl_ValOk_ok.up fun n h c v hc => by
  simp only [impl_stands, h, Option.bind_some, fitsS, int_beq]
  cases cValOk v.1 v.2.1 v.2.2
  · simp
  · by_cases h0 : v.1 = 0
    · have : ¬ (0 : Int) = c.2.1 := fun e => hc e.symm
      simp [h0, this]
    · by_cases h1 : v.1 = c.2.1 <;> simp [h0, h1]
      exact .inl hc
theorem spec_RowOk_ok : EV fun n => ∀ (x : T_Table) (r : T_ValS), sm_Table 1048576 x → spec_RowOk n x.1 x.2.1 x.2.2 r = some (cTableOk x && cRowIn x.2.1 r) := (spec_TableOk_ok.and (spec_l03Fits_ok.and (EV.gt 1048576))).up fun n ⟨h1, h2, hn⟩ x r hs => by
  have lc := hs.2.1.1
  simp only [spec_RowOk, h1 x hs, Option.bind_some, int_bne, cRowIn]
  cases cTableOk x
  · simp
  by_cases hl : r.length = x.2.1.length
  · have hl' : ((r.length : Int) = (x.2.1.length : Int)) = True := eq_true (by omega)
    simp only [Bool.not_true, cond_false, hl', decide_true, hl, Bool.true_and]
    refine (allFrom_loop (fun c k => fitsS c (r.getD k null)) x.2.1 (fun j k => spec_RowOk_L1 n j x.2.1 (x.2.1.length : Int) (k : Int) r) (some true) (fun j => by simp only [spec_RowOk_L1, lt_cast, Nat.lt_irrefl, decide_false, cond_false]) (fun j k hk => ?_) x.2.1 n 0 rfl (by omega) (by omega)).trans ?_
    · have hk2 : k < r.length := by omega
      simp only [spec_RowOk_L1, lt_cast, decide_eq_true hk, inR_true hk, inR_true hk2, Int.toNat_natCast, getD_at hk, cond_true, wrap_succ hk (by omega), h2, Option.bind_some, getD_null]
      exact bif_step _ _
    · cases allFrom (fun c k => fitsS c (r.getD k null)) x.2.1 0 <;> rfl
  · have hl' : ¬ (r.length : Int) = (x.2.1.length : Int) := by omega
    simp [hl, hl']
theorem impl_rowOk_ok : EV fun n => ∀ (x : T_Table) (r : T_ValS), sm_Table 1048576 x → cTableOk x = true → impl_rowOk n x.1 x.2.1 x.2.2 r = some (cRowIn x.2.1 r) := (impl_stands_ok.and (EV.gt 1048576)).up fun n ⟨h2, hn⟩ x r hs ht => by
  have lc := hs.2.1.1
  obtain ⟨_, hcol, _⟩ := table_facts ht
  simp only [impl_rowOk, int_bne, cRowIn]
  by_cases hl : r.length = x.2.1.length
  · have hl' : ((r.length : Int) = (x.2.1.length : Int)) = True := eq_true (by omega)
    simp only [Bool.not_true, cond_false, hl', decide_true, hl, Bool.true_and]
    refine (allFrom_loop (fun v k => fitsS (x.2.1.getD k CZ) v) r (fun j k => impl_rowOk_L1 n j r (x.2.1.length : Int) (k : Int) x.1 x.2.1 x.2.2) (some true) (fun j => by rw [hl]; simp only [impl_rowOk_L1, lt_cast, Nat.lt_irrefl, decide_false, cond_false]) (fun j k hk => ?_) r n 0 rfl (by omega) (by omega)).trans ?_
    · have hk2 : k < x.2.1.length := by omega
      simp only [impl_rowOk_L1, lt_cast, decide_eq_true hk2, inR_true hk, inR_true hk2, Int.toNat_natCast, getD_at hk, getD_at hk2, cond_true, wrap_succ hk (by omega)]
      rw [h2 x.2.1[k] r[k] (by have := col_ty (hcol _ (List.getElem_mem hk2)); omega)]
      exact bif_step _ _
    · have : allFrom (fun v k => fitsS (x.2.1.getD k CZ) v) r 0 = allFrom (fun c k => fitsS c (r.getD k null)) x.2.1 0 := by
        rw [Bool.eq_iff_iff, allFrom_iff, allFrom_iff]
        constructor
        · intro h i hi
          have := h i (by omega)
          rw [Nat.zero_add, getD_at hi] at this
          rw [Nat.zero_add, getD_at (show i < r.length by omega)]; exact this
        · intro h i hi
          have := h i (by omega)
          rw [Nat.zero_add, getD_at hi] at this
          rw [Nat.zero_add, getD_at (show i < x.2.1.length by omega)]; exact this
      rw [this]
      cases allFrom (fun c k => fitsS c (r.getD k null)) x.2.1 0 <;> rfl
  · have hl' : ¬ (r.length : Int) = (x.2.1.length : Int) := by omega
    simp [hl, hl']
theorem impl_RowOk_ok : EV fun n => ∀ (x : T_Table) (r : T_ValS), sm_Table 1048576 x → impl_RowOk n x.1 x.2.1 x.2.2 r = some (cTableOk x && cRowIn x.2.1 r) := (impl_TableOk_ok.and impl_rowOk_ok).up fun n ⟨h1, h2⟩ x r hs => by
  simp only [impl_RowOk, h1 x hs, Option.bind_some]
  cases ht : cTableOk x
  · simp
  · simp [h2 x r hs ht]
theorem spec_l03Key_ok : EV fun n => ∀ (x : T_Table) (r : T_ValS), sm_Table 1048576 x → cTableOk x = true → r.length = x.2.1.length → spec_l03Key n x.1 x.2.1 x.2.2 r = some (cKeyOf x.2.1 x.2.2 r) := (spec_ColAt_ok.and (EV.gt 1048576)).up fun n ⟨h1, hn⟩ x r hs ht hr => by
  have lk := hs.2.2.1
  obtain ⟨hkey, _⟩ := table_facts ht
  rw [spec_l03Key]
  refine (map_loop x.2.2 (fun key => r.getD (cColAt x.2.1 key).toNat null) (fun j k s => spec_l03Key_L1 n j x.2.2 (x.2.2.length : Int) (k : Int) x.1 x.2.1 x.2.2 r s) (fun j s => by simp only [spec_l03Key_L1, lt_cast, Nat.lt_irrefl, decide_false, cond_false]) (fun j k s hk hsl => ?_) x.2.2 n 0 [] rfl (by omega) (by omega) rfl).trans (by simp [cKeyOf])
  obtain ⟨k1, k2, k3⟩ := hkey _ (List.getElem_mem hk)
  have hroom : room (s.length + 1) 32 = true := by simp [room]; omega
  simp only [spec_l03Key_L1, lt_cast, decide_eq_true hk, inR_true hk, Int.toNat_natCast, getD_at hk, cond_true, wrap_succ hk (by omega), h1 _ _ _ _ hs.2.1.1, Option.bind_some, getD_null, inR_int k1 (show cColAt x.2.1 x.2.2[k] < (r.length : Int) by omega), List.length_cons, List.length_nil, Nat.zero_add, hroom]
theorem impl_keyOf_ok : EV fun n => ∀ (x : T_Table) (r : T_ValS), sm_Table 1048576 x → cTableOk x = true → r.length = x.2.1.length → impl_keyOf n x.1 x.2.1 x.2.2 r = some (cKeyOf x.2.1 x.2.2 r) := (impl_ColAt_ok.and (EV.gt 1048576)).up fun n ⟨h1, hn⟩ x r hs ht hr => by
  have lk := hs.2.2.1
  have h1 : ∀ s, impl_ColAt n x.1 x.2.1 x.2.2 s = some (cColAt x.2.1 s) := fun s => h1 _ _ _ _ hs.2.1.1
  obtain ⟨hkey, _⟩ := table_facts ht
  rw [impl_keyOf]
  refine (map_loop x.2.2 (fun key => r.getD (cColAt x.2.1 key).toNat null) (fun j k s => impl_keyOf_L1 n j x.2.2 (x.2.2.length : Int) (k : Int) x.1 x.2.1 x.2.2 r s) (fun j s => by simp only [impl_keyOf_L1, lt_cast, Nat.lt_irrefl, decide_false, cond_false]) (fun j k s hk hsl => ?_) x.2.2 n 0 [] rfl (by omega) (by omega) rfl).trans (by simp [cKeyOf])
  obtain ⟨k1, k2, k3⟩ := hkey _ (List.getElem_mem hk)
  have hroom : room (s.length + 1) 32 = true := by simp [room]; omega
  simp only [impl_keyOf_L1, lt_cast, decide_eq_true hk, inR_true hk, Int.toNat_natCast, getD_at hk, cond_true, wrap_succ hk (by omega), h1, Option.bind_some, getD_null, inR_int k1 (show cColAt x.2.1 x.2.2[k] < (r.length : Int) by omega), List.length_cons, List.length_nil, Nat.zero_add, hroom]
def cRowsStep (x : T_Table) (l : T_RowS) (r : T_Row) (k : Nat) : Bool := cRowIn x.2.1 r && (decide (k = 0) || cKeyLess (cKeyOf x.2.1 x.2.2 (l.getD (k - 1) [])) (cKeyOf x.2.1 x.2.2 r))
def cRowsOk (x : T_Table) (l : T_RowS) : Bool := cTableOk x && decide (l.length ≤ 60) && allFrom (cRowsStep x l) l 0
theorem rowIn_len {cs : T_ColS} {r : T_ValS} (h : cRowIn cs r = true) : r.length = cs.length := by
  simp only [cRowIn, Bool.and_eq_true, decide_eq_true_eq] at h; exact h.1
theorem rows_in {x : T_Table} {l : T_RowS} (h : cRowsOk x l = true) : cTableOk x = true ∧ l.length ≤ 60 ∧ ∀ r ∈ l, cRowIn x.2.1 r = true := by
  simp only [cRowsOk, Bool.and_eq_true, decide_eq_true_eq] at h
  refine ⟨h.1.1, h.1.2, fun r hr => ?_⟩
  obtain ⟨i, hi, rfl⟩ := List.mem_iff_getElem.mp hr
  have := (allFrom_iff _ _ _).mp h.2 i hi
  simp only [cRowsStep, Bool.and_eq_true] at this
  exact this.1
theorem spec_RowsOk_ok : EV fun n => ∀ (x : T_Table) (l : T_RowS), sm_Table 1048576 x → l.length ≤ 1048576 → spec_RowsOk n x.1 x.2.1 x.2.2 l = some (cRowsOk x l) := (spec_TableOk_ok.and (spec_RowOk_ok.and (spec_l03Key_ok.and (spec_KeyLess_ok.and (EV.gt 1048576))))).up fun n ⟨h1, h2, h3, h4, hn⟩ x l hs hl => by
  simp only [spec_RowsOk, h1 x hs, Option.bind_some, cRowsOk]
  by_cases ht : cTableOk x = true
  · simp only [ht, Bool.not_true, cond_false, Bool.true_and]
    by_cases c : (60 : Int) < (l.length : Int)
    · rw [decide_eq_true c, decide_eq_false (show ¬ l.length ≤ 60 by omega)]; rfl
    · rw [decide_eq_false c, decide_eq_true (show l.length ≤ 60 by omega)]
      simp only [cond_false, Bool.true_and]
      refine (allFrom_loopQ (cRowsStep x l) (fun k => ∀ i, i < k → ∀ h : i < l.length, cRowIn x.2.1 l[i] = true) l (fun j k => spec_RowsOk_L1 n j l l (l.length : Int) (k : Int) x.1 x.2.1 x.2.2) (some true) (fun j => by simp only [spec_RowsOk_L1, lt_cast, Nat.lt_irrefl, decide_false, cond_false]) (fun k hk hq hp i hi h => ?_) (fun j k hk hq => ?_) l n 0 rfl (by omega) (by omega) (fun i hi => by omega)).trans ?_
      · by_cases e : i < k
        · exact hq i e h
        · obtain rfl : i = k := by omega
          simp only [cRowsStep, Bool.and_eq_true] at hp
          exact hp.1
      · simp only [spec_RowsOk_L1, lt_cast, decide_eq_true hk, inR_true hk, Int.toNat_natCast, getD_at hk, cond_true, wrap_succ hk (by omega), h2 x l[k] hs, ht, Bool.true_and, Option.bind_some]
        by_cases hr : cRowIn x.2.1 l[k] = true
        · by_cases h0 : k = 0
          · subst h0
            have : cRowsStep x l l[0] 0 = true := by simp [cRowsStep, hr]
            simp [hr, this]
          · have hk1 : k - 1 < l.length := by omega
            have e : cRowsStep x l l[k] k = cKeyLess (cKeyOf x.2.1 x.2.2 l[k - 1]) (cKeyOf x.2.1 x.2.2 l[k]) := by simp only [cRowsStep, hr, decide_eq_false h0, Bool.true_and, Bool.false_or, getD_at hk1]
            have hprev := hq (k - 1) (by omega) hk1
            rw [decide_eq_true (show (0 : Int) < (k : Int) by omega), pred_cast (by omega) (by omega), inR_true hk1, Int.toNat_natCast, hr, e, getD_at hk1, h3 x _ hs ht (rowIn_len hprev), h3 x _ hs ht (rowIn_len hr)]
            simp only [cond_true, Bool.not_true, cond_false, Option.bind_some]
            rw [h4 _ _ (by rw [keyOf_len]; exact hs.2.2.1)]
            exact bif_step _ _
        · have : cRowsStep x l l[k] k = false := by simp [cRowsStep, hr]
          simp [hr, this]
      · cases allFrom (cRowsStep x l) l 0 <;> rfl
  · simp [ht]
theorem impl_RowsOk_ok : EV fun n => ∀ (x : T_Table) (l : T_RowS), sm_Table 1048576 x → l.length ≤ 1048576 → impl_RowsOk n x.1 x.2.1 x.2.2 l = some (cRowsOk x l) := (impl_TableOk_ok.and (impl_rowOk_ok.and (impl_keyOf_ok.and (impl_KeyLess_ok.and (EV.gt 1048576))))).up fun n ⟨h1, h2, h3, h4, hn⟩ x l hs hl => by
  simp only [impl_RowsOk, h1 x hs, Option.bind_some, cRowsOk]
  by_cases ht : cTableOk x = true
  · simp only [ht, Bool.not_true, cond_false, Bool.true_and]
    by_cases c : (60 : Int) < (l.length : Int)
    · rw [decide_eq_true c, decide_eq_false (show ¬ l.length ≤ 60 by omega)]; rfl
    · rw [decide_eq_false c, decide_eq_true (show l.length ≤ 60 by omega)]
      simp only [cond_false, Bool.true_and]
      refine (allFrom_loopQ (cRowsStep x l) (fun k => ∀ i, i < k → ∀ h : i < l.length, cRowIn x.2.1 l[i] = true) l (fun j k => impl_RowsOk_L1 n j l l (l.length : Int) (k : Int) x.1 x.2.1 x.2.2) (some true) (fun j => by simp only [impl_RowsOk_L1, lt_cast, Nat.lt_irrefl, decide_false, cond_false]) (fun k hk hq hp i hi h => ?_) (fun j k hk hq => ?_) l n 0 rfl (by omega) (by omega) (fun i hi => by omega)).trans ?_
      · by_cases e : i < k
        · exact hq i e h
        · obtain rfl : i = k := by omega
          simp only [cRowsStep, Bool.and_eq_true] at hp
          exact hp.1
      · simp only [impl_RowsOk_L1, lt_cast, decide_eq_true hk, inR_true hk, Int.toNat_natCast, getD_at hk, cond_true, wrap_succ hk (by omega), h2 x l[k] hs ht, Option.bind_some]
        by_cases hr : cRowIn x.2.1 l[k] = true
        · by_cases h0 : k = 0
          · subst h0
            have : cRowsStep x l l[0] 0 = true := by simp [cRowsStep, hr]
            simp [hr, this]
          · have hk1 : k - 1 < l.length := by omega
            have e : cRowsStep x l l[k] k = cKeyLess (cKeyOf x.2.1 x.2.2 l[k - 1]) (cKeyOf x.2.1 x.2.2 l[k]) := by simp only [cRowsStep, hr, decide_eq_false h0, Bool.true_and, Bool.false_or, getD_at hk1]
            have hprev := hq (k - 1) (by omega) hk1
            rw [decide_eq_true (show (0 : Int) < (k : Int) by omega), pred_cast (by omega) (by omega), inR_true hk1, Int.toNat_natCast, hr, e, getD_at hk1, h3 x _ hs ht (rowIn_len hprev), h3 x _ hs ht (rowIn_len hr)]
            simp only [cond_true, Bool.not_true, cond_false, Option.bind_some]
            rw [h4 _ _ (by rw [keyOf_len]; exact hs.2.2.1)]
            exact bif_step _ _
        · have : cRowsStep x l l[k] k = false := by simp [cRowsStep, hr]
          simp [hr, this]
      · cases allFrom (cRowsStep x l) l 0 <;> rfl
  · simp [ht]
def cKeyOk (x : T_Table) (key : T_ValS) : Bool := cTableOk x && decide (key.length = x.2.2.length) && allFrom (fun k i => fitsS (x.2.1.getD (cColAt x.2.1 k).toNat CZ) (key.getD i null)) x.2.2 0
theorem impl_KeyOk_ok : EV fun n => ∀ (x : T_Table) (key : T_ValS), sm_Table 1048576 x → impl_KeyOk n x.1 x.2.1 x.2.2 key = some (cKeyOk x key) := (impl_TableOk_ok.and (impl_ValOk_ok.and (impl_ColAt_ok.and (EV.gt 1048576)))).up fun n ⟨h1, h2, h3, hn⟩ x key hs => by
  have lk := hs.2.2.1
  have h3 : ∀ s, impl_ColAt n x.1 x.2.1 x.2.2 s = some (cColAt x.2.1 s) := fun s => h3 _ _ _ _ hs.2.1.1
  simp only [impl_KeyOk, h1 x hs, Option.bind_some, int_bne, cKeyOk]
  by_cases ht : cTableOk x = true
  · obtain ⟨hkey, hcol, _⟩ := table_facts ht
    by_cases hl : key.length = x.2.2.length
    · have hl' : ((key.length : Int) = (x.2.2.length : Int)) = True := eq_true (by omega)
      simp only [Bool.not_true, cond_false, hl', decide_true, hl, Bool.true_and, ht]
      refine (allFrom_loop (fun k i => fitsS (x.2.1.getD (cColAt x.2.1 k).toNat CZ) (key.getD i null)) x.2.2 (fun j k => impl_KeyOk_L1 n j key x.2.2 (x.2.2.length : Int) (k : Int) x.1 x.2.1 x.2.2) (some true) (fun j => by simp only [impl_KeyOk_L1, lt_cast, Nat.lt_irrefl, decide_false, cond_false]) (fun j k hk => ?_) x.2.2 n 0 rfl (by omega) (by omega)).trans ?_
      · have hk2 : k < key.length := by omega
        obtain ⟨k1, k2, k3⟩ := hkey _ (List.getElem_mem hk)
        have hin : (cColAt x.2.1 x.2.2[k]).toNat < x.2.1.length := by omega
        have hty := col_ty (hcol _ (List.getElem_mem hin))
        simp only [impl_KeyOk_L1, lt_cast, decide_eq_true hk, inR_true hk, inR_true hk2, Int.toNat_natCast, getD_at hk, getD_at hk2, cond_true, wrap_succ hk (by omega), h2, h3, inR_int k1 k2, Option.bind_some, getD_CZ, int_bne]
        rw [getD_at hin] at k3
        rw [getD_at hin]
        by_cases hv : cValOk key[k].1 key[k].2.1 key[k].2.2 = true
        · by_cases h0 : key[k].1 = 0
          · have : ¬ (0 : Int) = (x.2.1[(cColAt x.2.1 x.2.2[k]).toNat]).2.1 := by omega
            have hf : fitsS (x.2.1[(cColAt x.2.1 x.2.2[k]).toNat]) key[k] = false := by simp [fitsS, hv, h0, k3]
            rw [hf]; simp [hv, h0, this]
          · have hf : fitsS (x.2.1[(cColAt x.2.1 x.2.2[k]).toNat]) key[k] = decide (key[k].1 = (x.2.1[(cColAt x.2.1 x.2.2[k]).toNat]).2.1) := by simp [fitsS, hv, h0]
            rw [hf, hv]; simp only [Bool.not_true, cond_false]; exact bif_step _ _
        · have hf : fitsS (x.2.1[(cColAt x.2.1 x.2.2[k]).toNat]) key[k] = false := by simp [fitsS, hv]
          rw [hf]; simp [hv]
      · cases allFrom (fun k i => fitsS (x.2.1.getD (cColAt x.2.1 k).toNat CZ) (key.getD i null)) x.2.2 0 <;> rfl
    · have hl' : ¬ (key.length : Int) = (x.2.2.length : Int) := by omega
      simp [hl, hl', ht]
  · simp [ht]
def cDdlOk (d : T_Ddl) : Bool := cWordOk d.2.1 && (
  if d.1 = 1 then decide (d.2.2.2.2.1 = E0) && decide (d.2.2.2.2.2 = E0) && cTableOk (d.2.1, (d.2.2.1, d.2.2.2.1)) else
  if d.1 = 2 then d.2.2.1.isEmpty && d.2.2.2.1.isEmpty && decide (d.2.2.2.2.1 = E0) && decide (d.2.2.2.2.2 = E0) else
  if d.1 = 3 then (match d.2.2.1 with
    | [c] => cColOk c && (c.2.2.2.1 || !c.2.2.1) && d.2.2.2.1.isEmpty && decide (d.2.2.2.2.1 = E0) && decide (d.2.2.2.2.2 = E0)
    | _ => false) else
  if d.1 = 4 then d.2.2.1.isEmpty && d.2.2.2.1.isEmpty && cWordOk d.2.2.2.2.1 && decide (d.2.2.2.2.2 = E0) else
  if d.1 = 5 then d.2.2.1.isEmpty && d.2.2.2.1.isEmpty && cWordOk d.2.2.2.2.1 && cWordOk d.2.2.2.2.2 else false)
def noDdl : T_Ddl := (0, (E0, ([], ([], (E0, E0)))))
def cRowAt (x : T_Table) (l : T_RowS) (key : T_ValS) : Int := if cRowsOk x l = true then idx (fun r => decide (cKeyOf x.2.1 x.2.2 r = key)) l else -1
theorem spec_RowAt_ok : EV fun n => ∀ (x : T_Table) (l : T_RowS) (key : T_ValS), sm_Table 1048576 x → l.length ≤ 1048576 → spec_RowAt n x.1 x.2.1 x.2.2 l key = some (cRowAt x l key) := (spec_RowsOk_ok.and (spec_l03Key_ok.and (spec_l03SameVals_ok.and (EV.gt 1048576)))).up fun n ⟨h1, h2, h3, hn⟩ x l key hs hl => by
  simp only [spec_RowAt, h1 x l hs hl, Option.bind_some, cRowAt]
  by_cases hr : cRowsOk x l = true
  · obtain ⟨ht, _, hin⟩ := rows_in hr
    simp only [hr, Bool.not_true, cond_false, if_true]
    refine find_loop (fun r => decide (cKeyOf x.2.1 x.2.2 r = key)) l (fun j k => spec_RowAt_L1 n j key l (l.length : Int) (k : Int) x.1 x.2.1 x.2.2) (fun j => by simp only [spec_RowAt_L1, lt_cast, Nat.lt_irrefl, decide_false, cond_false]) (fun j k hk => ?_) l n 0 rfl (by omega) (by omega)
    have hk2 := rowIn_len (hin _ (List.getElem_mem hk))
    simp only [spec_RowAt_L1, lt_cast, decide_eq_true hk, inR_true hk, Int.toNat_natCast, getD_at hk, cond_true, wrap_succ hk (by omega), h2 x _ hs ht hk2, Option.bind_some]
    rw [h3 _ _ (by rw [keyOf_len]; exact hs.2.2.1)]
    exact bif_step' _ _
  · simp [hr]
theorem impl_rowAt_ok : EV fun n => ∀ (x : T_Table) (l : T_RowS) (key : T_ValS), sm_Table 1048576 x → l.length ≤ 1048576 → cTableOk x = true → (∀ r ∈ l, r.length = x.2.1.length) → impl_rowAt n x.1 x.2.1 x.2.2 l key = some (idx (fun r => decide (cKeyOf x.2.1 x.2.2 r = key)) l) :=
  (((impl_keyOf_ok.and slices_EqualVal_ok).up (q := fun n => ∀ (x : T_Table) (r key : T_ValS), sm_Table 1048576 x → cTableOk x = true → r.length = x.2.1.length → impl_rowAt_1 n r x key = some (decide (cKeyOf x.2.1 x.2.2 r = key))) fun n ⟨h1, h2⟩ x r key hs ht hr => by
    simp only [impl_rowAt_1, h1 x r hs ht hr, Option.bind_some]
    rw [h2 _ _ (by rw [keyOf_len]; exact hs.2.2.1)]; rfl).and (EV.gt 1048576)).up
    (q := fun n => ∀ (x : T_Table) (l : T_RowS) (key : T_ValS), sm_Table 1048576 x → l.length ≤ 1048576 → cTableOk x = true → (∀ r ∈ l, r.length = x.2.1.length) → slices_IndexFunc_impl_Row_impl_Row__impl_rowAt_1 n l x key = some (idx (fun r => decide (cKeyOf x.2.1 x.2.2 r = key)) l)) (fun n ⟨h, hn⟩ x l key hs hl ht hr => by
    rw [slices_IndexFunc_impl_Row_impl_Row__impl_rowAt_1]
    refine find_loop (fun r => decide (cKeyOf x.2.1 x.2.2 r = key)) l (fun j k => slices_IndexFunc_impl_Row_impl_Row__impl_rowAt_1_L1 n j l x key (l.length : Int) (k : Int)) (fun j => by simp only [slices_IndexFunc_impl_Row_impl_Row__impl_rowAt_1_L1, lt_cast, Nat.lt_irrefl, decide_false, cond_false]) (fun j k hk => ?_) l n 0 rfl (by omega) (by omega)
    simp only [slices_IndexFunc_impl_Row_impl_Row__impl_rowAt_1_L1, lt_cast, decide_eq_true hk, inR_true hk, Int.toNat_natCast, getD_at hk, cond_true, wrap_succ hk (by omega), h x _ key hs ht (hr _ (List.getElem_mem hk)), Option.bind_some]
    exact bif_step' _ _) |>.up fun n h x l key hs hl ht hr => by
      have := h x l key hs hl ht hr
      simp only [impl_rowAt]
      rw [show (x.1, (x.2.1, x.2.2)) = x from rfl, this]; rfl
theorem impl_RowAt_ok : EV fun n => ∀ (x : T_Table) (l : T_RowS) (key : T_ValS), sm_Table 1048576 x → l.length ≤ 1048576 → impl_RowAt n x.1 x.2.1 x.2.2 l key = some (cRowAt x l key) := (impl_RowsOk_ok.and impl_rowAt_ok).up fun n ⟨h1, h2⟩ x l key hs hl => by
  simp only [impl_RowAt, h1 x l hs hl, Option.bind_some, cRowAt]
  by_cases hr : cRowsOk x l = true
  · obtain ⟨ht, _, hin⟩ := rows_in hr
    simp only [hr, Bool.not_true, cond_false, if_true]
    rw [h2 x l key hs hl ht fun r hr => rowIn_len (hin r hr)]; rfl
  · simp [hr]
theorem allFrom_get {α : Type} {p : α → Nat → Bool} {l : List α} (h : allFrom p l 0 = true) {i : Nat} (hi : i < l.length) : p l[i] i = true := by
  have := (allFrom_iff p l 0).mp h i hi
  rwa [Nat.zero_add] at this
def dig (d : Int) : ByteArray := strOfNums [48 + d]
def decs : Nat → Int → ByteArray
  | 0, _ => E0
  | f + 1, a => if a < 10 then dig a else decs f (a / 10) ++ dig (a % 10)
def minus : ByteArray := ⟨#[45]⟩
def cNumText (a : Int) : ByteArray := if -1099511627775 ≤ a ∧ a ≤ 1099511627775 then (if a < 0 then minus ++ decs 14 (-a) else decs 14 a) else E0
def hexs : ByteArray := ⟨#[48, 49, 50, 51, 52, 53, 54, 55, 56, 57, 97, 98, 99, 100, 101, 102]⟩
def hexd (k : Nat) : Int := bt hexs (k : Int)
abbrev plainB (b : UInt8) : Prop := 33 ≤ b.toNat ∧ b.toNat ≤ 126 ∧ b.toNat ≠ 39 ∧ b.toNat ≠ 37
def quoteB (b : UInt8) : List Int := if plainB b then [(b.toNat : Int)] else [37, hexd (b.toNat / 16), hexd (b.toNat % 16)]
def quoteL : List UInt8 → List Int
  | [] => []
  | b :: t => quoteB b ++ quoteL t
def cQuote (s : ByteArray) : ByteArray := strOfNums ([39] ++ quoteL s.data.toList ++ [39])
def txtNull : ByteArray := ⟨#[110, 117, 108, 108]⟩
def txtBool (b : Int) : ByteArray := if b = 1 then ⟨#[116, 114, 117, 101]⟩ else ⟨#[102, 97, 108, 115, 101]⟩
def cValText (x : T_Val) : ByteArray := if cValOk x.1 x.2.1 x.2.2 = true then (if x.1 = 0 then txtNull else if x.1 = 1 then txtBool x.2.1 else if x.1 = 2 then cNumText x.2.1 else cQuote x.2.2) else E0
def space : ByteArray := ⟨#[32]⟩
def glueK : Nat → ByteArray → List ByteArray → ByteArray
  | _, acc, [] => acc
  | k, acc, t :: r => glueK (k + 1) (if 0 < k then acc ++ space ++ t else acc ++ t) r
def cJoin (l : List ByteArray) : ByteArray := glueK 0 E0 l
theorem nums_size (l : List Int) : (strOfNums l).size = l.length := by
  show (strOfNums l).data.size = _
  simp [strOfNums]
def tyL : List ByteArray := [⟨#[]⟩, ⟨#[98, 111, 111, 108]⟩, ⟨#[105, 110, 116]⟩, ⟨#[116, 101, 120, 116]⟩]
def tyN (a : Int) : ByteArray := tyL.getD a.toNat E0
def colTs (c : T_Col) : List ByteArray := [c.1, tyN c.2.1] ++ (if c.2.2.1 = true then [⟨#[110, 111, 116]⟩] else []) ++ (if c.2.2.2.1 = true then [⟨#[61]⟩ ++ cValText c.2.2.2.2] else [])
def colsTs : T_ColS → List ByteArray
  | [] => []
  | c :: t => [⟨#[40]⟩] ++ colTs c ++ [⟨#[41]⟩] ++ colsTs t
def verbs : List ByteArray := [⟨#[]⟩, ⟨#[99, 114, 101, 97, 116, 101]⟩, ⟨#[100, 114, 111, 112]⟩, ⟨#[97, 100, 100]⟩, ⟨#[111, 117, 116]⟩, ⟨#[110, 97, 109, 101]⟩]
def ddlTs (d : T_Ddl) : List ByteArray := [verbs.getD d.1.toNat E0, d.2.1] ++ (if d.1 = 1 then colsTs d.2.2.1 ++ [⟨#[107, 101, 121]⟩] ++ d.2.2.2.1 else if d.1 = 3 then (match d.2.2.1 with
  | c :: _ => colTs c
  | [] => []) else if d.1 = 4 then [d.2.2.2.2.1] else if d.1 = 5 then [d.2.2.2.2.1, d.2.2.2.2.2] else [])
def cDdlText (d : T_Ddl) : ByteArray := if cDdlOk d = true then cJoin (ddlTs d) else E0
def cKey (x : T_Table) (r : T_ValS) : T_ValS := if (cTableOk x && cRowIn x.2.1 r) = true then cKeyOf x.2.1 x.2.2 r else []
theorem impl_KeyOf_ok : EV fun n => ∀ (x : T_Table) (r : T_ValS), sm_Table 1048576 x → impl_KeyOf n x.1 x.2.1 x.2.2 r = some (cKey x r) := (impl_RowOk_ok.and impl_keyOf_ok).up fun n ⟨h1, h2⟩ x r hs => by
  simp only [impl_KeyOf, h1 x r hs, Option.bind_some, cKey]
  cases h : (cTableOk x && cRowIn x.2.1 r)
  · rfl
  · simp only [Bool.and_eq_true] at h
    simp [h2 x r hs h.1 (rowIn_len h.2)]
theorem spec_l03Row_ok : EV fun n => ∀ r : T_ValS, r.length ≤ 1048576 → spec_l03Row n r = some r := EV.true.up fun n _ r hr => by
  have r1 : room r.length 32 = true := by simp only [room, decide_eq_true_eq]; omega
  have r2 : room (([] : T_ValS).length + r.length) 32 = true := by simp only [room, decide_eq_true_eq, List.length_nil]; omega
  simp [spec_l03Row, r1]
theorem impl_copyVals_ok : EV fun n => ∀ r : T_ValS, r.length ≤ 1048576 → impl_copyVals n r = some r := EV.true.up fun n _ r hr => by
  have r1 : room r.length 32 = true := by simp only [room, decide_eq_true_eq]; omega
  have r2 : room (([] : T_ValS).length + r.length) 32 = true := by simp only [room, decide_eq_true_eq, List.length_nil]; omega
  simp [impl_copyVals, r1]
theorem impl_copyRows_ok : EV fun n => ∀ l : T_RowS, sm_RowS 1048576 l → impl_copyRows n l = some l := (impl_copyVals_ok.and (EV.gt 1048577)).up fun n ⟨h, hn⟩ l hs => by
  have hl := hs.1
  simp only [impl_copyRows]
  refine (map_loop l id (fun j k acc => impl_copyRows_L1 n j l (l.length : Int) (k : Int) acc) (fun j acc => ?_) (fun j k acc hk ha => ?_) l n 0 [] rfl (by omega) (by omega) rfl).trans (by simp)
  · simp only [impl_copyRows_L1, lt_cast, Nat.lt_irrefl, decide_false, cond_false]
  · have e := h l[k] (hs.2 _ (List.getElem_mem hk)).1
    have r3 : ∀ x : T_ValS, room (acc.length + [x].length) 24 = true := fun x => by simp only [room, decide_eq_true_eq, List.length_cons, List.length_nil]; omega
    simp only [impl_copyRows_L1, lt_cast, decide_eq_true hk, inR_true hk, Int.toNat_natCast, getD_at hk, cond_true, wrap_succ hk (by omega), e, Option.bind_some, r3, id]
def wsOk (ws : List ByteArray) : Prop := ws.length ≤ 1048577 ∧ ∀ w ∈ ws, w.size ≤ 1048576
theorem wsOk.sm {ws : List ByteArray} (h : wsOk ws) : sm_StringS 1048577 ws := ⟨h.1, fun w hw => by have := h.2 w hw; omega⟩
theorem wsOk.drop {ws : List ByteArray} (h : wsOk ws) (i : Nat) : wsOk (ws.drop i) := ⟨by have := h.1; simp; omega, fun w hw => h.2 w (List.mem_of_mem_drop hw)⟩
theorem wsOk.take {ws : List ByteArray} (h : wsOk ws) (i : Nat) : wsOk (ws.take i) := ⟨by have := h.1; simp; omega, fun w hw => h.2 w (List.mem_of_mem_take hw)⟩
def fin (d : T_Ddl) (s : ByteArray) : T_Ddl × (Bool × Unit) := if cDdlText d = s then (d, (true, ())) else (noDdl, (false, ()))
def Draws {α : Type} (b : List Int) (P : α → Prop) (r : Option (α × (((List Int) × (Int × Int)) × Unit))) : Prop := ∃ x i h, r = some (x, ((b, (i, h)), ())) ∧ 0 ≤ i ∧ P x
theorem and255 (a b : Int) : 0 ≤ IntKind.wrap .i64 ((BitVec.ofInt (IntKind.bits .i64) a &&& BitVec.ofInt (IntKind.bits .i64) (255 : Int)).toNat : Int) ∧ IntKind.wrap .i64 ((BitVec.ofInt (IntKind.bits .i64) a &&& BitVec.ofInt (IntKind.bits .i64) (255 : Int)).toNat : Int) ≤ 255 := by
  have h : (BitVec.ofInt (IntKind.bits .i64) a &&& BitVec.ofInt (IntKind.bits .i64) (255 : Int)).toNat ≤ 255 := by
    rw [BitVec.toNat_and]
    exact Nat.and_le_right
  rw [wrap64 (by omega) (by omega)]
  omega
theorem byte_ok : EV fun n => ∀ (b : List Int) (i h : Int), b.length ≤ 1048576 → 0 ≤ i → Draws b (fun x : Int => 0 ≤ x ∧ x ≤ 255) (spec_l01Byte n b i h) := EV.true.up fun n _ b i h hb hi => by
  simp only [spec_l01Byte, show decide (0 ≤ (33 : Int)) = true from rfl, show decide (0 ≤ (45 : Int)) = true from rfl, cond_true]
  by_cases hl : i < b.length
  · have e1 : decide (i < (b.length : Int)) = true := decide_eq_true hl
    obtain ⟨k, rfl⟩ := Int.eq_ofNat_of_zero_le hi
    have e2 : inR (k : Int) b.length = true := inR_true (by omega)
    simp only [e1, e2, cond_true]
    refine ⟨_, _, _, rfl, ?_, and255 _ 0⟩
    rw [wrap_succ (n := b.length) (by omega) (by omega)]; omega
  · have e1 : decide (i < (b.length : Int)) = false := decide_eq_false hl
    simp only [e1, cond_false]
    exact ⟨_, _, _, rfl, hi, and255 _ 0⟩
theorem below_ok : EV fun n => ∀ (b : List Int) (i h m : Int), b.length ≤ 1048576 → 0 ≤ i → m ≤ 4294967296 → Draws b (fun x : Int => (0 < m → 0 ≤ x ∧ x < m) ∧ (m ≤ 0 → x = 0)) (spec_l01Below n b i h m) := byte_ok.up fun n hB b i h m hb hi hm => by
  rw [spec_l01Below]
  by_cases h0 : m ≤ 0
  · simp only [decide_eq_true h0, cond_true]
    exact ⟨_, _, _, rfl, hi, by omega, by omega⟩
  · simp only [decide_eq_false h0, cond_false]
    have hz : (!decide (m = 0)) = true := by simp; omega
    by_cases h1 : m ≤ 256
    · obtain ⟨x, i1, g1, e1, p1, q1⟩ := hB b i h hb hi
      simp only [decide_eq_true h1, cond_true, e1, Option.bind_some, hz]
      refine ⟨_, _, _, rfl, p1, fun _ => ?_, by omega⟩
      rw [Int.tmod_eq_emod_of_nonneg q1.1]
      exact ⟨Int.emod_nonneg _ (by omega), Int.emod_lt_of_pos _ (by omega)⟩
    · obtain ⟨x, i1, g1, e1, p1, q1⟩ := hB b i h hb hi
      obtain ⟨y, i2, g2, e2, p2, q2⟩ := hB b i1 g1 hb p1
      obtain ⟨z, i3, g3, e3, p3, q3⟩ := hB b i2 g2 hb p2
      obtain ⟨w, i4, g4, e4, p4, q4⟩ := hB b i3 g3 hb p3
      simp only [decide_eq_false h1, cond_false, cond_true, e1, e2, e3, e4, Option.bind_some, hz]
      refine ⟨_, _, _, rfl, p4, fun _ => ?_, by omega⟩
      rw [wrap64 (x := x * 16777216) (by omega) (by omega), wrap64 (x := y * 65536) (by omega) (by omega), wrap64 (x := z * 256) (by omega) (by omega), wrap64 (x := x * 16777216 + y * 65536) (by omega) (by omega), wrap64 (x := x * 16777216 + y * 65536 + z * 256) (by omega) (by omega), wrap64 (x := x * 16777216 + y * 65536 + z * 256 + w) (by omega) (by omega)]
      rw [Int.tmod_eq_emod_of_nonneg (by omega)]
      exact ⟨Int.emod_nonneg _ (by omega), Int.emod_lt_of_pos _ (by omega)⟩
def inI64 (x : Int) : Prop := -9223372036854775808 ≤ x ∧ x ≤ 9223372036854775807
theorem raw_ok : EV fun n => ∀ (b : List Int) (i h : Int), b.length ≤ 1048576 → 0 ≤ i → Draws b inI64 (spec_l01Raw n b i h) := below_ok.up fun n hB b i h hb hi => by
  obtain ⟨k, i1, g1, e1, p1, q1, _⟩ := hB b i h 9 hb hi (by omega)
  have q1 := q1 (by omega)
  simp only [spec_l01Raw, e1, Option.bind_some, int_beq]
  have one : ∀ m : Int, 0 < m → m ≤ 4294967296 → ∃ x i2 g2, spec_l01Below n b i1 g1 m = some (x, ((b, (i2, g2)), ())) ∧ 0 ≤ i2 ∧ 0 ≤ x ∧ x < m := fun m h0 h1 => by
    obtain ⟨x, i2, g2, e2, p2, q2, _⟩ := hB b i1 g1 m hb p1 h1
    exact ⟨x, i2, g2, e2, p2, (q2 h0).1, (q2 h0).2⟩
  by_cases c1 : k < 4
  · obtain ⟨x, i2, g2, e2, p2, q2, r2⟩ := one 24 (by decide) (by decide)
    simp only [decide_eq_true c1, cond_true, e2, Option.bind_some]
    refine ⟨_, _, _, rfl, p2, ?_⟩
    rw [wrap64 (by omega) (by omega)]; unfold inI64; omega
  · simp only [decide_eq_false c1, cond_false]
    by_cases c2 : k = 4
    · obtain ⟨x, i2, g2, e2, p2, q2, r2⟩ := one 3 (by decide) (by decide)
      simp only [decide_eq_true c2, cond_true, e2, Option.bind_some]
      refine ⟨_, _, _, rfl, p2, ?_⟩
      rw [wrap64 (by omega) (by omega)]; unfold inI64; omega
    · simp only [decide_eq_false c2, cond_false]
      by_cases c3 : k = 5
      · obtain ⟨x, i2, g2, e2, p2, q2, r2⟩ := one 3 (by decide) (by decide)
        simp only [decide_eq_true c3, cond_true, e2, Option.bind_some]
        refine ⟨_, _, _, rfl, p2, ?_⟩
        rw [wrap64 (by omega) (by omega)]; unfold inI64; omega
      · simp only [decide_eq_false c3, cond_false]
        by_cases c4 : k = 6
        · obtain ⟨x, i2, g2, e2, p2, q2, r2⟩ := one 2 (by decide) (by decide)
          simp only [decide_eq_true c4, cond_true, e2, Option.bind_some]
          refine ⟨_, _, _, rfl, p2, ?_⟩
          rw [wrap64 (by omega) (by omega)]; unfold inI64; omega
        · simp only [decide_eq_false c4, cond_false]
          by_cases c5 : k = 7
          · obtain ⟨x, i2, g2, e2, p2, q2, r2⟩ := one 2 (by decide) (by decide)
            simp only [decide_eq_true c5, cond_true, e2, Option.bind_some]
            refine ⟨_, _, _, rfl, p2, ?_⟩
            rw [wrap64 (by omega) (by omega)]; unfold inI64; omega
          · obtain ⟨x, i2, g2, e2, p2, q2, r2⟩ := one 2000000 (by decide) (by decide)
            simp only [decide_eq_false c5, cond_false, e2, Option.bind_some]
            exact ⟨_, _, _, rfl, p2, by unfold inI64; omega⟩
theorem new_ok : EV fun n => ∀ (b : List Int), b.length ≤ 1048576 → ∃ h, spec_l01New n b = some ((b, (0, h)), ()) := (EV.gt 1048578).up fun n hn b hb => by
  rw [spec_l01New]
  have : ∀ (t : List Int) (j k : Nat) (h : Int), b.drop k = t → k ≤ b.length → t.length < j → ∃ g, spec_l01New_L1 n j b h (k : Int) = some ((b, (0, g)), ()) := by
    intro t
    induction t with
    | nil =>
      intro j k h hd hk hj
      obtain ⟨j, rfl⟩ : ∃ j', j = j' + 1 := ⟨j - 1, by omega⟩
      have : k = b.length := by have := congrArg List.length hd; simp at this; omega
      subst this
      simp only [spec_l01New_L1, lt_cast, Nat.lt_irrefl, decide_false, cond_false]
      exact ⟨_, rfl⟩
    | cons x t ih =>
      intro j k h hd hk hj
      obtain ⟨j, rfl⟩ : ∃ j', j = j' + 1 := ⟨j - 1, by omega⟩
      obtain ⟨h2, h3, h4⟩ := drop_cons hd x
      rw [spec_l01New_L1]
      simp only [lt_cast, decide_eq_true h2, cond_true]
      by_cases c : (k : Int) < 4000
      · simp only [decide_eq_true c, inR_true h2, cond_true, wrap_succ h2 (by omega)]
        exact ih j (k + 1) _ h4 (by omega) (by simp at hj; omega)
      · simp only [decide_eq_false c, cond_false]
        exact ⟨_, rfl⟩
  exact this b n 0 _ rfl (by omega) (by omega)
theorem drawStr_ok : EV fun n => ∀ (b : List Int) (i h : Int), b.length ≤ 1048576 → 0 ≤ i → Draws b (fun s : ByteArray => s.size ≤ 30) (spec_l01Str n b i h) := (byte_ok.and (below_ok.and (EV.gt 100))).up fun n ⟨hB, hW, hn⟩ b i h hb hi => by
  obtain ⟨k, i1, g1, e1, p1, q1, _⟩ := hW b i h 10 hb hi (by omega)
  have q1 := q1 (by omega)
  obtain ⟨k, rfl⟩ := Int.eq_ofNat_of_zero_le q1.1
  simp only [spec_l01Str, e1, Option.bind_some, int_beq]
  by_cases c1 : (k : Int) < 7
  · have hk : k < 7 := by omega
    simp only [decide_eq_true c1, cond_true, inR_true (k := k) (n := [(⟨#[]⟩ : ByteArray), (⟨#[97]⟩ : ByteArray), (⟨#[98]⟩ : ByteArray), (⟨#[97, 98]⟩ : ByteArray), (⟨#[116, 114, 117, 101]⟩ : ByteArray), (⟨#[102, 97, 108, 115, 101]⟩ : ByteArray), (⟨#[49, 50]⟩ : ByteArray)].length) hk]
    refine ⟨_, _, _, rfl, p1, ?_⟩
    rw [Int.toNat_natCast]
    have : ∀ k : Fin 7, ([(⟨#[]⟩ : ByteArray), (⟨#[97]⟩ : ByteArray), (⟨#[98]⟩ : ByteArray), (⟨#[97, 98]⟩ : ByteArray), (⟨#[116, 114, 117, 101]⟩ : ByteArray), (⟨#[102, 97, 108, 115, 101]⟩ : ByteArray), (⟨#[49, 50]⟩ : ByteArray)].getD k.val (⟨#[]⟩ : ByteArray)).size ≤ 30 := by decide
    exact this ⟨k, hk⟩
  · simp only [decide_eq_false c1, cond_false]
    by_cases c2 : (k : Int) = 7
    · simp only [decide_eq_true c2, cond_true]
      exact ⟨_, _, _, rfl, p1, by decide⟩
    · simp only [decide_eq_false c2, cond_false]
      obtain ⟨m, i2, g2, e2, p2, q2, _⟩ := hW b i1 g1 31 hb p1 (by omega)
      have q2 := q2 (by omega)
      obtain ⟨m, rfl⟩ := Int.eq_ofNat_of_zero_le q2.1
      simp only [e2, Option.bind_some]
      have loop : ∀ (t j x : Nat) (i g : Int) (acc : List Int), x + t = m → t < j → acc.length = x → 0 ≤ i → Draws b (fun s : ByteArray => s.size ≤ 30) (spec_l01Str_L1 n j (m : Int) (x : Int) b i g acc) := by
        intro t
        induction t with
        | zero =>
          intro j x i g acc hx hj ha hi
          obtain ⟨j, rfl⟩ : ∃ j', j = j' + 1 := ⟨j - 1, by omega⟩
          have : decide ((x : Int) < (m : Int)) = false := decide_eq_false (by omega)
          simp only [spec_l01Str_L1, this, cond_false]
          exact ⟨_, _, _, rfl, hi, show (strOfNums acc).size ≤ 30 by rw [nums_size]; omega⟩
        | succ t ih =>
          intro j x i g acc hx hj ha hi
          obtain ⟨j, rfl⟩ : ∃ j', j = j' + 1 := ⟨j - 1, by omega⟩
          have e0 : decide ((x : Int) < (m : Int)) = true := decide_eq_true (by omega)
          obtain ⟨y, i3, g3, e3, p3, q3⟩ := hB b i g hb hi
          have hr : room (acc.length + [IntKind.wrap .u8 y].length) 1 = true := by simp [room]; omega
          simp only [spec_l01Str_L1, e0, cond_true, e3, Option.bind_some, hr, wrap_succ (show x < m by omega) (by omega)]
          exact ih j (x + 1) i3 g3 _ (by omega) (by omega) (by simp; omega) p3
      exact loop m n 0 i2 g2 [] (by omega) (by omega) rfl p2
theorem drawOf_ok : EV fun n => ∀ (b : List Int) (i h ty : Int), b.length ≤ 1048576 → 0 ≤ i → Draws b (fun v : T_Val => v.2.2.size ≤ 31) (spec_l01Of n b i h ty) := (drawStr_ok.and below_ok).up fun n ⟨hS, hW⟩ b i h ty hb hi => by
  obtain ⟨k, i1, g1, e1, p1, _⟩ := hW b i h 8 hb hi (by omega)
  simp only [spec_l01Of, e1, Option.bind_some, int_beq]
  by_cases c0 : k = 0
  · simp only [decide_eq_true c0, cond_true]
    exact ⟨_, _, _, rfl, p1, by decide⟩
  · simp only [decide_eq_false c0, cond_false]
    by_cases c1 : ty = 1
    · obtain ⟨x, i2, g2, e2, p2, _⟩ := hW b i1 g1 2 hb p1 (by omega)
      simp only [decide_eq_true c1, cond_true, e2, Option.bind_some]
      exact ⟨_, _, _, rfl, p2, show E0.size ≤ 31 by decide⟩
    · simp only [decide_eq_false c1, cond_false]
      by_cases c2 : ty = 2
      · obtain ⟨x, i2, g2, e2, p2, _⟩ := hW b i1 g1 12 hb p1 (by omega)
        simp only [decide_eq_true c2, cond_true, e2, Option.bind_some]
        exact ⟨_, _, _, rfl, p2, show E0.size ≤ 31 by decide⟩
      · simp only [decide_eq_false c2, cond_false]
        by_cases c3 : ty = 3
        · obtain ⟨x, i2, g2, e2, p2, q2⟩ := hS b i1 g1 hb p1
          simp only [decide_eq_true c3, cond_true, e2, Option.bind_some]
          exact ⟨_, _, _, rfl, p2, Nat.le_trans q2 (by decide)⟩
        · simp only [decide_eq_false c3, cond_false]
          exact ⟨_, _, _, rfl, p1, by decide⟩
theorem drawVal_ok : EV fun n => ∀ (b : List Int) (i h : Int), b.length ≤ 1048576 → 0 ≤ i → Draws b (fun v : T_Val => v.2.2.size ≤ 31) (spec_l01Val n b i h) := (drawOf_ok.and below_ok).up fun n ⟨hS, hW⟩ b i h hb hi => by
  obtain ⟨k, i1, g1, e1, p1, _⟩ := hW b i h 4 hb hi (by omega)
  obtain ⟨v, i2, g2, e2, p2, q2⟩ := hS b i1 g1 k hb p1
  simp only [spec_l01Val, e1, e2, Option.bind_some]
  exact ⟨_, _, _, rfl, p2, q2⟩
theorem drawAny_ok : EV fun n => ∀ (b : List Int) (i h : Int), b.length ≤ 1048576 → 0 ≤ i → Draws b (fun v : T_Val => v.2.2.size ≤ 31) (spec_l01Any n b i h) := (drawVal_ok.and (below_ok.and raw_ok)).up fun n ⟨hV, hW, hR⟩ b i h hb hi => by
  obtain ⟨v, i1, g1, e1, p1, q1⟩ := hV b i h hb hi
  obtain ⟨k, i2, g2, e2, p2, _⟩ := hW b i1 g1 12 hb p1 (by omega)
  simp only [spec_l01Any, e1, e2, Option.bind_some, int_beq]
  by_cases c0 : k = 0
  · obtain ⟨x, i3, g3, e3, p3, _⟩ := hR b i2 g2 hb p2
    subst c0
    simp only [show decide ((0 : Int) = 0) = true from rfl, show decide ((0 : Int) = 1) = false from rfl, show decide ((0 : Int) = 2) = false from rfl, cond_true, cond_false, e3, Option.bind_some]
    exact ⟨_, _, _, rfl, p3, q1⟩
  · simp only [decide_eq_false c0, cond_false]
    by_cases c1 : k = 1
    · obtain ⟨x, i3, g3, e3, p3, _⟩ := hR b i2 g2 hb p2
      subst c1
      simp only [show decide ((1 : Int) = 1) = true from rfl, show decide ((1 : Int) = 2) = false from rfl, cond_true, cond_false, e3, Option.bind_some]
      exact ⟨_, _, _, rfl, p3, q1⟩
    · simp only [decide_eq_false c1, cond_false]
      by_cases c2 : k = 2
      · obtain ⟨x, i3, g3, e3, p3, q3, _⟩ := hW b i2 g2 2 hb p2 (by omega)
        have q3 := q3 (by omega)
        have w : IntKind.wrap .i64 ((30 : Int) + x) = 30 + x := wrap64 (by omega) (by omega)
        have hr : (decide (True ∧ 0 ≤ 30 + x) && room (30 + x).toNat 1) = true := by simp [room]; omega
        simp only [decide_eq_true c2, cond_true, e3, Option.bind_some, w, hr]
        refine ⟨_, _, _, rfl, p3, ?_⟩
        show (strOfNums _).size ≤ 31
        rw [nums_size, List.length_replicate]; omega
      · simp only [decide_eq_false c2, cond_false]
        exact ⟨_, _, _, rfl, p2, q1⟩
theorem bytesLess_tri : ∀ x y : List UInt8, (Op.bytesLess x y && Op.bytesLess y x) = false ∧ (Op.bytesLess x y || Op.bytesLess y x) = !decide (x = y)
  | [], [] => by simp [Op.bytesLess]
  | [], b :: y => by simp [Op.bytesLess]
  | a :: x, [] => by simp [Op.bytesLess]
  | a :: x, b :: y => by
    obtain ⟨h1, h2⟩ := bytesLess_tri x y
    simp only [Op.bytesLess]
    by_cases h : a = b
    · subst h
      simp only [show (a < a) = False from eq_false (UInt8.lt_irrefl a), decide_false, Bool.false_or, BEq.rfl, Bool.true_and, h1, h2, List.cons.injEq, true_and]
    · have hn : ¬ b = a := fun e => h e.symm
      have e1 : (a == b) = false := by simp [h]
      have e2 : (b == a) = false := by simp [hn]
      simp only [e1, e2, Bool.false_and, Bool.or_false, List.cons.injEq, h, false_and, decide_false, Bool.not_false]
      rcases UInt8.lt_or_lt_of_ne h with g | g
      · have : ¬ b < a := UInt8.lt_asymm g
        simp [g, this]
      · have : ¬ a < b := UInt8.lt_asymm g
        simp [g, this]
theorem less_tri {x y : T_Val} (hx : cValOk x.1 x.2.1 x.2.2 = true) (hy : cValOk y.1 y.2.1 y.2.2 = true) : (cValLess x y && cValLess y x) = false ∧ (cValLess x y || cValLess y x) = !decide (x = y) := by
  obtain ⟨a, b, s⟩ := x; obtain ⟨c, d, t⟩ := y
  simp only [cValLess, hx, hy, Bool.true_and]
  by_cases h1 : a = c
  · subst h1
    by_cases h2 : b = d
    · subst h2
      simp only [if_true]
      obtain ⟨g1, g2⟩ := bytesLess_tri s.toList t.toList
      refine ⟨g1, ?_⟩
      rw [g2]
      simp [text_eq']
    · simp only [if_true, if_neg h2, if_neg (fun e : d = b => h2 e.symm)]
      have : ¬ ((a, (b, s)) : T_Val) = (a, (d, t)) := by simp [h2]
      rw [decide_eq_false this]
      by_cases h3 : b < d
      · simp [h3]; omega
      · have : d < b := by omega
        simp [h3, this]
  · simp only [if_neg h1, if_neg (fun e : c = a => h1 e.symm)]
    have : ¬ ((a, (b, s)) : T_Val) = (c, (d, t)) := by simp [h1]
    rw [decide_eq_false this]
    by_cases h3 : a < c
    · simp [h3]; omega
    · have : c < a := by omega
      simp [h3, this]
def foldI {α S : Type} (f : Nat → α → S → S) : Nat → List α → S → S
  | _, [], s => s
  | k, x :: t, s => foldI f (k + 1) t (f k x s)
theorem foldI_loop {α S T : Type} (l : List α) (f : Nat → α → S → S) (L : Nat → Nat → S → T) (R : S → T) (Inv : Nat → S → Prop) (hinv : ∀ k (h : k < l.length) s, Inv k s → Inv (k + 1) (f k l[k] s))
    (hexit : ∀ j s, Inv l.length s → L (j + 1) l.length s = R s) (hstep : ∀ j k s (h : k < l.length), Inv k s → L (j + 1) k s = L j (k + 1) (f k l[k] s)) :
    ∀ (t : List α) (j k : Nat) (s : S), l.drop k = t → k ≤ l.length → t.length < j → Inv k s → L j k s = R (foldI f k t s)
  | [], j + 1, k, s, hd, hk, _, hs => by
    have : k = l.length := by
      rcases Nat.lt_or_ge k l.length with h' | h'
      · rw [List.drop_eq_getElem_cons h'] at hd; cases hd
      · omega
    subst this; rw [hexit _ _ hs]; rfl
  | x :: t, j + 1, k, s, hd, hk, hj, hs => by
    obtain ⟨h2, h3, h4⟩ := drop_cons hd x
    have hx : l[k] = x := by simpa [List.getD, h2] using h3
    rw [hstep j k s h2 hs, foldI_loop l f L R Inv hinv hexit hstep t j (k + 1) _ h4 (by omega) (by simp at hj; omega) (hinv k h2 s hs)]
    simp only [foldI, hx]
def without {α : Type} (l : List α) (i : Nat) : List α := l.take i ++ l.drop (i + 1)
theorem del1 {α : Type} {l : List α} {i : Nat} (h : i < l.length) : delF l (i : Int) ((i + 1 : Nat) : Int) = some (without l i) := by
  unfold delF
  rw [decide_eq_true (by omega)]; rfl
def cRowOut (x : T_Table) (l : T_RowS) (key : T_ValS) : T_RowS × (Int × Unit) :=
  if cRowsOk x l = true then (if cKeyOk x key = true ∧ 0 ≤ idx (fun r => decide (cKeyOf x.2.1 x.2.2 r = key)) l then (without l (idx (fun r => decide (cKeyOf x.2.1 x.2.2 r = key)) l).toNat, (0, ())) else ([], (5, ()))) else ([], (1, ()))
theorem rows_lens {x : T_Table} {l : T_RowS} (h : cRowsOk x l = true) : ∀ r ∈ l, r.length = x.2.1.length := fun r hr => rowIn_len ((rows_in h).2.2 r hr)
theorem impl_RowOut_ok : EV fun n => ∀ (x : T_Table) (l : T_RowS) (key : T_ValS), sm_Table 1048576 x → sm_RowS 1048576 l → impl_RowOut n x.1 x.2.1 x.2.2 l key = some (cRowOut x l key) := (impl_RowsOk_ok.and (impl_rowAt_ok.and (impl_KeyOk_ok.and (impl_copyRows_ok.and (EV.gt 0))))).up fun n ⟨h1, h2, h3, h4, hn⟩ x l key hs hl => by
  obtain ⟨m, rfl⟩ : ∃ m, n = m + 1 := ⟨n - 1, by omega⟩
  simp only [impl_RowOut, h1 x l hs hl.1, h3 x key hs, Option.bind_some, cRowOut]
  cases hr : cRowsOk x l
  · simp
  simp only [Bool.not_true, cond_false, if_true, h2 x l key hs hl.1 (rows_in hr).1 (rows_lens hr), Option.bind_some, h4 l hl, slices_Delete_impl_Row_impl_Row]
  cases hk : cKeyOk x key
  · simp
  obtain ⟨b1, b2⟩ := idx_lt (fun r : T_Row => decide (cKeyOf x.2.1 x.2.2 r = key)) l
  generalize idx (fun r : T_Row => decide (cKeyOf x.2.1 x.2.2 r = key)) l = i at b1 b2
  have := hl.1
  by_cases c : i < 0
  · rw [decide_eq_true c, if_neg (fun h => absurd h.2 (by omega))]; rfl
  · obtain ⟨i, rfl⟩ := Int.eq_ofNat_of_zero_le (show 0 ≤ i by omega)
    rw [decide_eq_false c, if_pos ⟨rfl, by omega⟩]
    have hi : i < l.length := by omega
    simp only [Bool.not_true, cond_false, Option.bind_some, Int.toNat_natCast, wrap_succ hi (by omega), del1 hi]
theorem smr_nil : sm_RowS 1048576 [] := ⟨Nat.zero_le _, by simp⟩
theorem bytesLess_trans : ∀ {x y z : List UInt8}, Op.bytesLess x y = true → Op.bytesLess y z = true → Op.bytesLess x z = true
  | _, [], _, h, _ => by cases ‹List UInt8› <;> simp [Op.bytesLess] at h
  | _, _ :: _, [], _, h => by simp [Op.bytesLess] at h
  | [], _ :: _, _ :: _, _, _ => by simp [Op.bytesLess]
  | a :: x, b :: y, c :: z, h1, h2 => by
    simp only [Op.bytesLess, Bool.or_eq_true, Bool.and_eq_true, decide_eq_true_eq, beq_iff_eq] at h1 h2 ⊢
    rcases h1 with h1 | ⟨rfl, h1⟩
    · rcases h2 with h2 | ⟨rfl, _⟩
      · exact .inl (UInt8.lt_trans h1 h2)
      · exact .inl h1
    · rcases h2 with h2 | ⟨rfl, h2⟩
      · exact .inl h2
      · exact .inr ⟨rfl, bytesLess_trans h1 h2⟩
theorem valLess_trans {x y z : T_Val} (h1 : cValLess x y = true) (h2 : cValLess y z = true) : cValLess x z = true := by
  obtain ⟨a, b, s⟩ := x; obtain ⟨c, d, t⟩ := y; obtain ⟨e, f, u⟩ := z
  simp only [cValLess, Bool.and_eq_true] at h1 h2 ⊢
  refine ⟨⟨h1.1.1, h2.1.2⟩, ?_⟩
  have k1 := h1.2; have k2 := h2.2
  by_cases e1 : a = c
  · subst e1
    rw [if_pos rfl] at k1
    by_cases e2 : a = e
    · subst e2
      rw [if_pos rfl] at k2 ⊢
      by_cases e3 : b = d
      · subst e3
        rw [if_pos rfl] at k1
        by_cases e4 : b = f
        · subst e4; rw [if_pos rfl] at k2 ⊢; exact bytesLess_trans k1 k2
        · rw [if_neg e4] at k2 ⊢; exact k2
      · rw [if_neg e3, decide_eq_true_eq] at k1
        by_cases e4 : d = f
        · subst e4; rw [if_neg e3]; exact decide_eq_true k1
        · rw [if_neg e4, decide_eq_true_eq] at k2
          rw [if_neg (by omega)]; exact decide_eq_true (by omega)
    · rw [if_neg e2] at k2 ⊢; exact k2
  · rw [if_neg e1, decide_eq_true_eq] at k1
    by_cases e2 : c = e
    · subst e2; rw [if_neg e1]; exact decide_eq_true k1
    · rw [if_neg e2, decide_eq_true_eq] at k2
      rw [if_neg (by omega)]; exact decide_eq_true (by omega)
def keyV (a : T_ValS) : Prop := ∀ v ∈ a, cValOk v.1 v.2.1 v.2.2 = true
theorem keyLess_tri : ∀ {a b : T_ValS}, a.length = b.length → keyV a → keyV b → (cKeyLess a b && cKeyLess b a) = false ∧ (cKeyLess a b || cKeyLess b a) = !decide (a = b)
  | [], [], _, _, _ => by simp [cKeyLess]
  | [], _ :: _, h, _, _ => by simp at h
  | _ :: _, [], h, _, _ => by simp at h
  | x :: s, y :: t, h, ha, hb => by
    have ih := keyLess_tri (a := s) (b := t) (by simpa using h) (fun v hv => ha v (List.mem_cons_of_mem _ hv)) (fun v hv => hb v (List.mem_cons_of_mem _ hv))
    have hv := less_tri (ha x (List.mem_cons_self ..)) (hb y (List.mem_cons_self ..))
    simp only [cKeyLess]
    by_cases e : x = y
    · subst e; simp only [if_true, List.cons.injEq, true_and]; exact ih
    · rw [if_neg e, if_neg (fun h => e h.symm)]
      refine ⟨hv.1, ?_⟩
      rw [hv.2, decide_eq_false e, decide_eq_false (fun h => e (List.cons.inj h).1)]
theorem keyLess_trans : ∀ {a b c : T_ValS}, a.length = b.length → b.length = c.length → keyV a → keyV b → keyV c → cKeyLess a b = true → cKeyLess b c = true → cKeyLess a c = true
  | [], [], _, _, _, _, _, _, h, _ => by simp [cKeyLess] at h
  | [], _ :: _, _, h, _, _, _, _, _, _ => by simp at h
  | _ :: _, [], _, h, _, _, _, _, _, _ => by simp at h
  | _ :: _, _ :: _, [], _, h, _, _, _, _, _ => by simp at h
  | x :: s, y :: t, z :: u, h1, h2, ha, hb, hc, k1, k2 => by
    simp only [cKeyLess] at k1 k2 ⊢
    by_cases e1 : x = y
    · subst e1
      rw [if_pos rfl] at k1
      by_cases e2 : x = z
      · subst e2
        rw [if_pos rfl] at k2 ⊢
        exact keyLess_trans (by simpa using h1) (by simpa using h2) (fun v hv => ha v (List.mem_cons_of_mem _ hv)) (fun v hv => hb v (List.mem_cons_of_mem _ hv)) (fun v hv => hc v (List.mem_cons_of_mem _ hv)) k1 k2
      · rw [if_neg e2] at k2 ⊢; exact k2
    · rw [if_neg e1] at k1
      by_cases e2 : y = z
      · subst e2; rw [if_neg e1]; exact k1
      · rw [if_neg e2] at k2
        have k3 := valLess_trans k1 k2
        by_cases e3 : x = z
        · subst e3
          have := (less_tri (ha x (List.mem_cons_self ..)) (hb y (List.mem_cons_self ..))).1
          rw [k1, k2] at this; cases this
        · rw [if_neg e3]; exact k3
theorem keyOf_valid {x : T_Table} (ht : cTableOk x = true) {r : T_Row} (hr : cRowIn x.2.1 r = true) : keyV (cKeyOf x.2.1 x.2.2 r) := by
  intro v hv
  simp only [cKeyOf, List.mem_map] at hv
  obtain ⟨key, hk, rfl⟩ := hv
  obtain ⟨h1, h2, _⟩ := (table_facts ht).1 key hk
  simp only [cRowIn, Bool.and_eq_true, decide_eq_true_eq] at hr
  have hi : (cColAt x.2.1 key).toNat < x.2.1.length := by omega
  have := (allFrom_iff _ _ _).mp hr.2 _ hi
  simp only [Nat.zero_add, fitsS] at this
  generalize r.getD (cColAt x.2.1 key).toNat null = v at this
  revert this
  cases cValOk v.1 v.2.1 v.2.2 <;> simp
theorem while_loop {α T : Type} (p : α → Bool) (l : List α) (L : Nat → Nat → T) (R : Nat → T) (hexit : ∀ j, L (j + 1) l.length = R l.length) (hstep : ∀ j k (h : k < l.length), L (j + 1) k = if p l[k] = true then L j (k + 1) else R k) :
    ∀ (t : List α) (j k : Nat), l.drop k = t → k ≤ l.length → t.length < j → L j k = R (k + (t.takeWhile p).length)
  | [], j + 1, k, hd, hk, _ => by
    have : k = l.length := by
      rcases Nat.lt_or_ge k l.length with h' | h'
      · rw [List.drop_eq_getElem_cons h'] at hd; cases hd
      · omega
    subst this; rw [hexit]; rfl
  | x :: t, j + 1, k, hd, hk, hj => by
    obtain ⟨h2, h3, h4⟩ := drop_cons hd x
    have hx : l[k] = x := by simpa [List.getD, h2] using h3
    rw [hstep j k h2, hx]
    by_cases hp : p x = true
    · rw [if_pos hp, while_loop p l L R hexit hstep t j (k + 1) h4 (by omega) (by simp at hj; omega), List.takeWhile_cons_of_pos hp]
      simp only [List.length_cons]; congr 1; omega
    · rw [if_neg hp, List.takeWhile_cons_of_neg hp]; rfl
theorem takeWhile_take {α : Type} (p : α → Bool) : ∀ l : List α, l.take (l.takeWhile p).length = l.takeWhile p ∧ l.drop (l.takeWhile p).length = l.dropWhile p
  | [] => by simp
  | x :: t => by
    obtain ⟨h1, h2⟩ := takeWhile_take p t
    by_cases hp : p x = true
    · simp [List.takeWhile_cons_of_pos hp, List.dropWhile_cons_of_pos hp, h1, h2]
    · simp [List.takeWhile_cons_of_neg hp, List.dropWhile_cons_of_neg hp]
theorem takeWhile_le {α : Type} (p : α → Bool) (l : List α) : (l.takeWhile p).length ≤ l.length := by
  have := congrArg List.length (takeWhile_take p l).1
  rw [List.length_take] at this; omega
def lessR (x : T_Table) (r y : T_Row) : Bool := cKeyLess (cKeyOf x.2.1 x.2.2 y) (cKeyOf x.2.1 x.2.2 r)
def cPlaced (x : T_Table) (l : T_RowS) (r : T_Row) : T_RowS := l.takeWhile (lessR x r) ++ [r] ++ l.dropWhile (lessR x r)
theorem ins1 {α : Type} {l : List α} {i : Nat} {r : α} (h : i ≤ l.length) (hl : l.length ≤ 1048576) : insF 24 l (i : Int) [r] = some (l.take i ++ [r] ++ l.drop i) := by
  unfold insF
  rw [decide_eq_true ⟨rfl, by omega, by omega⟩]
  have : room (l.length + 1) 24 = true := by simp only [room, decide_eq_true_eq]; omega
  rw [this]; rfl
theorem bindS {α : Type} (o : Option α) : (o.bind fun r => some r) = o := by cases o <;> rfl
theorem impl_placed_ok : EV fun n => ∀ (x : T_Table) (l : T_RowS) (r : T_Row), sm_Table 1048576 x → sm_RowS 1048576 l → r.length ≤ 1048576 → cTableOk x = true → (∀ y ∈ l, y.length = x.2.1.length) → r.length = x.2.1.length → impl_placed n x.1 x.2.1 x.2.2 l r = some (cPlaced x l r) :=
  (impl_keyOf_ok.and (impl_KeyLess_ok.and (impl_copyRows_ok.and (impl_copyVals_ok.and (EV.gt 1048577))))).up fun n ⟨h1, h2, h3, h4, hn⟩ x l r hs hl hr ht hy hr2 => by
  have hll := hl.1
  obtain ⟨m, rfl⟩ : ∃ m, n = m + 1 := ⟨n - 1, by omega⟩
  simp only [impl_placed]
  refine (while_loop (lessR x r) l (fun j k => impl_placed_L1 (m + 1) j l (k : Int) x.1 x.2.1 x.2.2 r) (fun k => insF 24 l (k : Int) [r]) (fun j => ?_) (fun j k hk => ?_) l (m + 1) 0 rfl (by omega) (by omega)).trans ?_
  · simp only [impl_placed_L1, lt_cast, Nat.lt_irrefl, decide_false, cond_false, h3 l hl, h4 r hr, Option.bind_some, slices_Insert_impl_Row_impl_Row, bindS]
  · have e := h2 (cKeyOf x.2.1 x.2.2 l[k]) (cKeyOf x.2.1 x.2.2 r) (by rw [keyOf_len]; exact hs.2.2.1)
    simp only [impl_placed_L1, lt_cast, decide_eq_true hk, inR_true hk, Int.toNat_natCast, getD_at hk, cond_true, wrap_succ hk (by omega), h1 x l[k] hs ht (hy _ (List.getElem_mem hk)), h1 x r hs ht hr2, e, Option.bind_some, h3 l hl, h4 r hr, slices_Insert_impl_Row_impl_Row, bindS, lessR]
    exact bif_step' _ _
  · have := takeWhile_le (lessR x r) l
    rw [Nat.zero_add, ins1 this hll, (takeWhile_take _ _).1, (takeWhile_take _ _).2]; rfl
def layStep (x : T_Table) (r : T_Row) (y : T_Row) (s : Bool × T_RowS) : Bool × T_RowS := if s.1 = true then (true, s.2 ++ [y]) else if cKeyLess (cKeyOf x.2.1 x.2.2 r) (cKeyOf x.2.1 x.2.2 y) = true then (true, s.2 ++ [r] ++ [y]) else (false, s.2 ++ [y])
def layEnd (r : T_Row) (s : Bool × T_RowS) : T_RowS := if s.1 = true then s.2 else s.2 ++ [r]
theorem lay_done (x : T_Table) (r : T_Row) : ∀ (t : T_RowS) (k : Nat) (acc : T_RowS), foldI (fun _ => layStep x r) k t (true, acc) = (true, acc ++ t)
  | [], k, acc => by simp [foldI]
  | y :: t, k, acc => by
    simp only [foldI, layStep, if_true]
    rw [lay_done x r t]; simp
theorem lay_all (x : T_Table) (r : T_Row) : ∀ (t : T_RowS) (k : Nat) (acc : T_RowS), (∀ y ∈ t, cKeyLess (cKeyOf x.2.1 x.2.2 r) (cKeyOf x.2.1 x.2.2 y) = !lessR x r y) → layEnd r (foldI (fun _ => layStep x r) k t (false, acc)) = acc ++ cPlaced x t r
  | [], k, acc, _ => by simp [foldI, layEnd, cPlaced]
  | y :: t, k, acc, h => by
    have hy := h y (List.mem_cons_self ..)
    simp only [foldI, layStep, Bool.false_eq_true, if_false]
    cases hp : lessR x r y
    · rw [hp] at hy
      rw [if_pos (by simpa using hy), lay_done]
      simp [layEnd, cPlaced, List.takeWhile_cons_of_neg (show ¬ lessR x r y = true by simp [hp]), List.dropWhile_cons_of_neg (show ¬ lessR x r y = true by simp [hp])]
    · rw [hp] at hy
      rw [if_neg (by simp [hy]), lay_all x r t _ _ fun z hz => h z (List.mem_cons_of_mem _ hz)]
      simp [cPlaced, List.takeWhile_cons_of_pos hp, List.dropWhile_cons_of_pos hp]
theorem spec_l03Lay_ok : EV fun n => ∀ (x : T_Table) (l : T_RowS) (r : T_Row), sm_Table 1048576 x → sm_RowS 1048576 l → r.length ≤ 1048576 → cTableOk x = true → (∀ y ∈ l, y.length = x.2.1.length) → r.length = x.2.1.length →
    spec_l03Lay n x.1 x.2.1 x.2.2 l r = some (layEnd r (foldI (fun _ => layStep x r) 0 l (false, []))) := (spec_l03Key_ok.and (spec_KeyLess_ok.and (spec_l03Row_ok.and (EV.gt 1048577)))).up fun n ⟨h1, h2, h3, hn⟩ x l r hs hl hr ht hy hr2 => by
  have hll := hl.1
  simp only [spec_l03Lay]
  refine foldI_loop l (fun _ => layStep x r) (fun j k (s : Bool × T_RowS) => spec_l03Lay_L1 n j s.1 l (l.length : Int) (k : Int) x.1 x.2.1 x.2.2 r s.2) (fun s => some (layEnd r s)) (fun k s => (s.1 = false → s.2.length ≤ k) ∧ s.2.length ≤ k + 1) (fun k hk s h1 => ?_) (fun j s h => ?_) (fun j k s hk ha => ?_) l n 0 (false, []) rfl (by omega) (by omega) ⟨fun _ => Nat.le_refl 0, Nat.zero_le _⟩
  · obtain ⟨b, acc⟩ := s
    obtain ⟨h1, h2⟩ := h1
    cases b
    · have := h1 rfl
      simp only [layStep, Bool.false_eq_true, if_false]
      split
      · refine ⟨fun h => (by cases h), ?_⟩
        simp; dsimp only at this; omega
      · refine ⟨fun _ => ?_, ?_⟩ <;> (simp; dsimp only at this; omega)
    · simp only [layStep, if_true]
      refine ⟨fun h => (by cases h), ?_⟩
      simp; dsimp only at h2; omega
  · obtain ⟨h0, h⟩ := h
    have r3 : room (s.2.length + [r].length) 24 = true := by simp only [room, decide_eq_true_eq, List.length_cons, List.length_nil]; omega
    simp only [spec_l03Lay_L1, lt_cast, Nat.lt_irrefl, decide_false, cond_false, h3 r hr, Option.bind_some, r3, cond_true, layEnd]
    cases s.1 <;> rfl
  · obtain ⟨_, ha⟩ := ha
    have e := h3 l[k] (hl.2 _ (List.getElem_mem hk)).1
    have e2 := h2 (cKeyOf x.2.1 x.2.2 r) (cKeyOf x.2.1 x.2.2 l[k]) (by rw [keyOf_len]; exact hs.2.2.1)
    have r3 : ∀ y : T_ValS, room (s.2.length + [y].length) 24 = true := fun y => by simp only [room, decide_eq_true_eq, List.length_cons, List.length_nil]; omega
    have r4 : ∀ y z : T_ValS, room ((s.2 ++ [y]).length + [z].length) 24 = true := fun y z => by simp only [room, decide_eq_true_eq, List.length_append, List.length_cons, List.length_nil]; omega
    simp only [spec_l03Lay_L1, lt_cast, decide_eq_true hk, inR_true hk, Int.toNat_natCast, getD_at hk, cond_true, wrap_succ hk (by omega), e, h3 r hr, h1 x r hs ht hr2, h1 x l[k] hs ht (hy _ (List.getElem_mem hk)), e2, Option.bind_some, r3, r4, layStep]
    obtain ⟨b, acc⟩ := s
    cases b
    · cases cKeyLess (cKeyOf x.2.1 x.2.2 r) (cKeyOf x.2.1 x.2.2 l[k]) <;> rfl
    · rfl
theorem idx_none {α : Type} (p : α → Bool) : ∀ (l : List α) (k : Nat), idxFrom p l k = -1 ↔ ∀ y ∈ l, p y = false
  | [], k => by simp [idxFrom]
  | x :: t, k => by
    simp only [idxFrom, List.mem_cons, forall_eq_or_imp]
    by_cases h : p x = true
    · rw [if_pos h]
      constructor
      · intro e; omega
      · intro e; rw [e.1] at h; cases h
    · rw [if_neg h, idx_none p t (k + 1)]
      simp at h
      simp [h]
theorem idx_neg {α : Type} (p : α → Bool) (l : List α) : ¬ 0 ≤ idx p l ↔ ∀ y ∈ l, p y = false := by
  rw [← idx_none p l 0]
  have := (idx_lt p l).1
  unfold idx at this ⊢
  omega
theorem lay_placed {x : T_Table} {l : T_RowS} {r : T_Row} (ht : cTableOk x = true) (hl : ∀ y ∈ l, cRowIn x.2.1 y = true) (hr : cRowIn x.2.1 r = true) (hk : ∀ y ∈ l, cKeyOf x.2.1 x.2.2 y ≠ cKeyOf x.2.1 x.2.2 r) :
    layEnd r (foldI (fun _ => layStep x r) 0 l (false, [])) = cPlaced x l r := by
  rw [lay_all x r l 0 [] fun y hy => ?_]
  · rfl
  · obtain ⟨h1, h2⟩ := keyLess_tri (a := cKeyOf x.2.1 x.2.2 y) (b := cKeyOf x.2.1 x.2.2 r) (by rw [keyOf_len, keyOf_len]) (keyOf_valid ht (hl y hy)) (keyOf_valid ht hr)
    rw [decide_eq_false (hk y hy)] at h2
    unfold lessR
    revert h1 h2
    cases cKeyLess (cKeyOf x.2.1 x.2.2 y) (cKeyOf x.2.1 x.2.2 r) <;> cases cKeyLess (cKeyOf x.2.1 x.2.2 r) (cKeyOf x.2.1 x.2.2 y) <;> simp
theorem placed_mem {x : T_Table} {l : T_RowS} {r y : T_Row} (h : y ∈ cPlaced x l r) : y ∈ l ∨ y = r := by
  unfold cPlaced at h
  simp only [List.mem_append, List.mem_singleton] at h
  rcases h with (h | h) | h
  · exact .inl (by rw [← List.takeWhile_append_dropWhile (p := lessR x r) (l := l)]; exact List.mem_append_left _ h)
  · exact .inr h
  · exact .inl (by rw [← List.takeWhile_append_dropWhile (p := lessR x r) (l := l)]; exact List.mem_append_right _ h)
theorem placed_len (x : T_Table) (l : T_RowS) (r : T_Row) : (cPlaced x l r).length = l.length + 1 := by
  have := congrArg List.length (List.takeWhile_append_dropWhile (p := lessR x r) (l := l))
  simp only [List.length_append] at this
  simp [cPlaced]; omega
theorem sm_placed {x : T_Table} {l : T_RowS} {r : T_Row} (hl : sm_RowS 1048576 l) (h60 : l.length ≤ 60) (hr : sm_Row 1048576 r) : sm_RowS 1048576 (cPlaced x l r) :=
  ⟨by rw [placed_len]; omega, fun y hy => by
    rcases placed_mem hy with hy | rfl
    · exact hl.2 y hy
    · exact hr⟩
def keyIdx (x : T_Table) (l : T_RowS) (key : T_ValS) : Int := idx (fun r => decide (cKeyOf x.2.1 x.2.2 r = key)) l
def cRowPut (x : T_Table) (l : T_RowS) (r : T_Row) : T_RowS × (Int × Unit) :=
  if cRowsOk x l = true then (if cRowIn x.2.1 r = true then (if 0 ≤ keyIdx x l (cKeyOf x.2.1 x.2.2 r) then ([], (3, ())) else if l.length = 60 then ([], (4, ())) else (cPlaced x l r, (0, ()))) else ([], (2, ()))) else ([], (1, ()))
theorem keys_ne {x : T_Table} {l : T_RowS} {key : T_ValS} (h : ¬ 0 ≤ keyIdx x l key) : ∀ y ∈ l, cKeyOf x.2.1 x.2.2 y ≠ key := fun y hy e => by
  have := (idx_neg _ _).mp h y hy
  rw [decide_eq_true e] at this; cases this
theorem spec_RowPut_ok : EV fun n => ∀ (x : T_Table) (l : T_RowS) (r : T_Row), sm_Table 1048576 x → sm_RowS 1048576 l → r.length ≤ 1048576 → spec_RowPut n x.1 x.2.1 x.2.2 l r = some (cRowPut x l r) := (spec_RowsOk_ok.and (spec_RowOk_ok.and (spec_l03Key_ok.and (spec_RowAt_ok.and spec_l03Lay_ok)))).up fun n ⟨h1, h2, h3, h4, h5⟩ x l r hs hl hrl => by
  simp only [spec_RowPut, h1 x l hs hl.1, h2 x r hs, Option.bind_some, cRowPut, int_beq]
  cases hr : cRowsOk x l
  · simp
  have ht := (rows_in hr).1
  simp only [Bool.not_true, cond_false, if_true, ht, Bool.true_and]
  cases hi : cRowIn x.2.1 r
  · simp
  simp only [Bool.not_true, cond_false, if_true, h3 x r hs ht (rowIn_len hi), h4 x l _ hs hl.1, Option.bind_some, cRowAt, hr]
  rw [show idx (fun y => decide (cKeyOf x.2.1 x.2.2 y = cKeyOf x.2.1 x.2.2 r)) l = keyIdx x l (cKeyOf x.2.1 x.2.2 r) from rfl]
  by_cases c : 0 ≤ keyIdx x l (cKeyOf x.2.1 x.2.2 r)
  · rw [decide_eq_true c, if_pos c]; rfl
  · rw [decide_eq_false c, if_neg c]
    by_cases c2 : l.length = 60
    · rw [decide_eq_true (by omega), if_pos c2]; rfl
    · rw [decide_eq_false (by omega), if_neg c2, h5 x l r hs hl hrl ht (rows_lens hr) (rowIn_len hi), lay_placed ht (rows_in hr).2.2 hi (keys_ne c)]; rfl
theorem impl_RowPut_ok : EV fun n => ∀ (x : T_Table) (l : T_RowS) (r : T_Row), sm_Table 1048576 x → sm_RowS 1048576 l → r.length ≤ 1048576 → impl_RowPut n x.1 x.2.1 x.2.2 l r = some (cRowPut x l r) := (impl_RowsOk_ok.and (impl_rowOk_ok.and (impl_keyOf_ok.and (impl_rowAt_ok.and impl_placed_ok)))).up fun n ⟨h1, h2, h3, h4, h5⟩ x l r hs hl hrl => by
  simp only [impl_RowPut, h1 x l hs hl.1, Option.bind_some, cRowPut, int_beq]
  cases hr : cRowsOk x l
  · simp
  have ht := (rows_in hr).1
  simp only [Bool.not_true, cond_false, if_true, h2 x r hs ht, Option.bind_some]
  cases hi : cRowIn x.2.1 r
  · simp
  simp only [Bool.not_true, cond_false, if_true, h3 x r hs ht (rowIn_len hi), h4 x l _ hs hl.1 ht (rows_lens hr), Option.bind_some]
  rw [show idx (fun y => decide (cKeyOf x.2.1 x.2.2 y = cKeyOf x.2.1 x.2.2 r)) l = keyIdx x l (cKeyOf x.2.1 x.2.2 r) from rfl]
  by_cases c : 0 ≤ keyIdx x l (cKeyOf x.2.1 x.2.2 r)
  · rw [decide_eq_true c, if_pos c]; rfl
  · rw [decide_eq_false c, if_neg c]
    by_cases c2 : l.length = 60
    · rw [decide_eq_true (by omega), if_pos c2]; rfl
    · rw [decide_eq_false (by omega), if_neg c2, h5 x l r hs hl hrl ht (rows_lens hr) (rowIn_len hi)]; rfl
theorem same_RowPut : EV fun n => ∀ (x0 : T_Table) (x1 : T_RowS) (x2 : T_Row), sm_Table 1048576 x0 → sm_RowS 1048576 x1 → sm_Row 1048576 x2 → ∃ r, spec_RowPut n x0.1 x0.2.1 x0.2.2 x1 x2 = some r ∧ impl_RowPut n x0.1 x0.2.1 x0.2.2 x1 x2 = some r ∧ sm_RowS 1048576 r.1 :=
  (spec_RowPut_ok.and impl_RowPut_ok).mono fun n ⟨h1, h2⟩ x l r hx hl hr => ⟨_, h1 x l r hx hl hr.1, h2 x l r hx hl hr.1, by
    unfold cRowPut
    split
    · rename_i h
      split
      · split
        · exact smr_nil
        · split
          · exact smr_nil
          · exact sm_placed hl (rows_in h).2.1 hr
      · exact smr_nil
    · exact smr_nil⟩
/-- rows in order -/
theorem rows_sorted {x : T_Table} {l : T_RowS} (h : cRowsOk x l = true) : ∀ i j (hi : i < j) (hj : j < l.length), cKeyLess (cKeyOf x.2.1 x.2.2 l[i]) (cKeyOf x.2.1 x.2.2 l[j]) = true := by
  obtain ⟨ht, _, hin⟩ := rows_in h
  simp only [cRowsOk, Bool.and_eq_true] at h
  have hstep : ∀ k (hk : k + 1 < l.length), cKeyLess (cKeyOf x.2.1 x.2.2 l[k]) (cKeyOf x.2.1 x.2.2 l[k + 1]) = true := fun k hk => by
    have := (allFrom_iff _ _ _).mp h.2 (k + 1) hk
    simp only [Nat.zero_add, cRowsStep, Bool.and_eq_true, Nat.add_sub_cancel, getD_at (show k < l.length by omega)] at this
    simpa using this.2
  intro i j hi
  induction j with
  | zero => omega
  | succ j ih =>
    intro hj
    by_cases e : i = j
    · subst e; exact hstep i hj
    · have k1 := ih (by omega) (by omega)
      have hv : ∀ q (hq : q < l.length), keyV (cKeyOf x.2.1 x.2.2 l[q]) := fun q hq => keyOf_valid ht (hin _ (List.getElem_mem hq))
      exact keyLess_trans (by rw [keyOf_len, keyOf_len]) (by rw [keyOf_len, keyOf_len]) (hv _ _) (hv _ _) (hv _ _) k1 (hstep j hj)
theorem rows_of_sorted {x : T_Table} {l : T_RowS} (ht : cTableOk x = true) (hl : l.length ≤ 60) (hin : ∀ r ∈ l, cRowIn x.2.1 r = true) (hs : ∀ k (hk : k + 1 < l.length), cKeyLess (cKeyOf x.2.1 x.2.2 l[k]) (cKeyOf x.2.1 x.2.2 l[k + 1]) = true) : cRowsOk x l = true := by
  simp only [cRowsOk, ht, decide_eq_true hl, Bool.true_and]
  refine (allFrom_iff _ _ _).mpr fun i hi => ?_
  simp only [Nat.zero_add, cRowsStep, hin _ (List.getElem_mem hi), Bool.true_and, Bool.or_eq_true, decide_eq_true_eq]
  cases i with
  | zero => exact .inl rfl
  | succ i =>
    right
    rw [Nat.add_sub_cancel, getD_at (show i < l.length by omega)]
    exact hs i hi
theorem idx_at {α : Type} (p : α → Bool) : ∀ (l : List α) (k i : Nat), idxFrom p l k = ((k + i : Nat) : Int) → ∃ h : i < l.length, p l[i] = true
  | [], k, i, h => by simp only [idxFrom] at h; omega
  | x :: t, k, i, h => by
    simp only [idxFrom] at h
    split at h
    · rename_i hp
      obtain rfl : i = 0 := by omega
      exact ⟨by simp, hp⟩
    · rcases idx_bound p t (k + 1) with e | e
      · omega
      · obtain ⟨i, rfl⟩ : ∃ i', i = i' + 1 := ⟨i - 1, by omega⟩
        obtain ⟨h1, h2⟩ := idx_at p t (k + 1) i (by rw [h]; congr 1; omega)
        exact ⟨by simp; exact h1, by simpa using h2⟩
theorem colAt_cases (cs : T_ColS) (s : ByteArray) : cColAt cs s < 0 ∨ ∃ k : Nat, cColAt cs s = (k : Int) ∧ ∃ hk : k < cs.length, cs[k].1 = s := by
  by_cases c : 0 ≤ cColAt cs s
  · obtain ⟨k, e⟩ := Int.eq_ofNat_of_zero_le c
    obtain ⟨hk, e2⟩ := idx_at (fun c : T_Col => decide (c.1 = s)) cs 0 k (by rw [Nat.zero_add]; exact e)
    exact .inr ⟨k, e, hk, by simpa using e2⟩
  · exact .inl (by omega)
theorem key_facts {x : T_Table} (h : cTableOk x = true) {k : ByteArray} (hk : k ∈ x.2.2) : ∃ p : Nat, cColAt x.2.1 k = (p : Int) ∧ ∃ hp : p < x.2.1.length, x.2.1[p].1 = k ∧ x.2.1[p].2.2.1 = true := by
  obtain ⟨a1, a2, a3⟩ := (table_facts h).1 k hk
  rcases colAt_cases x.2.1 k with c | ⟨p, e, hp, e2⟩
  · omega
  · refine ⟨p, e, hp, e2, ?_⟩
    rw [e, Int.toNat_natCast, getD_at hp] at a3
    exact a3
theorem rowIn_iff {cs : T_ColS} {r : T_ValS} : cRowIn cs r = true ↔ r.length = cs.length ∧ ∀ i (h1 : i < cs.length) (h2 : i < r.length), fitsS cs[i] r[i] = true := by
  simp only [cRowIn, Bool.and_eq_true, decide_eq_true_eq]
  constructor
  · rintro ⟨h1, h2⟩
    refine ⟨h1, fun i hi hi2 => ?_⟩
    have := allFrom_get h2 hi
    rwa [getD_at hi2] at this
  · rintro ⟨h1, h2⟩
    refine ⟨h1, (allFrom_iff _ _ _).mpr fun i hi => ?_⟩
    rw [Nat.zero_add, getD_at (show i < r.length by omega)]
    exact h2 i hi (by omega)
theorem placed_ok {x : T_Table} {l : T_RowS} {r : T_Row} (h : cRowsOk x l = true) (hlen : l.length < 60) (hr : cRowIn x.2.1 r = true) (hno : ∀ y ∈ l, cKeyOf x.2.1 x.2.2 y ≠ cKeyOf x.2.1 x.2.2 r) : cRowsOk x (cPlaced x l r) = true := by
  obtain ⟨ht, h60, hin⟩ := rows_in h
  have hp : l.Pairwise fun a b => cKeyLess (cKeyOf x.2.1 x.2.2 a) (cKeyOf x.2.1 x.2.2 b) = true := List.pairwise_iff_getElem.mpr fun i j hi hj hij => rows_sorted h i j hij hj
  have hv : ∀ y, cRowIn x.2.1 y = true → keyV (cKeyOf x.2.1 x.2.2 y) := fun y hy => keyOf_valid ht hy
  have hlk : ∀ a b : T_Row, (cKeyOf x.2.1 x.2.2 a).length = (cKeyOf x.2.1 x.2.2 b).length := fun a b => by rw [keyOf_len, keyOf_len]
  have hdl : ∀ y ∈ l.dropWhile (lessR x r), cKeyLess (cKeyOf x.2.1 x.2.2 r) (cKeyOf x.2.1 x.2.2 y) = true := by
    cases hd : l.dropWhile (lessR x r) with
    | nil => intro y hy; cases hy
    | cons z t =>
      have hsub : (z :: t).Sublist l := by rw [← hd]; exact List.dropWhile_sublist _
      have hzl : z ∈ l := hsub.subset (List.mem_cons_self ..)
      have hz : lessR x r z = false := by
        have := List.head_dropWhile_not (lessR x r) (by rw [hd]; simp : l.dropWhile (lessR x r) ≠ [])
        simpa [hd] using this
      have hrz : cKeyLess (cKeyOf x.2.1 x.2.2 r) (cKeyOf x.2.1 x.2.2 z) = true := by
        have := (keyLess_tri (hlk z r) (hv z (hin z hzl)) (hv r hr)).2
        rw [decide_eq_false (hno z hzl)] at this
        have hz' : cKeyLess (cKeyOf x.2.1 x.2.2 z) (cKeyOf x.2.1 x.2.2 r) = false := hz
        rw [hz', Bool.false_or] at this
        exact this
      intro y hy
      rcases List.mem_cons.mp hy with e | e
      · rw [e]; exact hrz
      · have hpz := (List.pairwise_cons.mp (hp.sublist hsub)).1 y e
        have hyl : y ∈ l := hsub.subset (List.mem_cons_of_mem _ e)
        exact keyLess_trans (hlk r z) (hlk z y) (hv r hr) (hv z (hin z hzl)) (hv y (hin y hyl)) hrz hpz
  have htk : ∀ y ∈ l.takeWhile (lessR x r), cKeyLess (cKeyOf x.2.1 x.2.2 y) (cKeyOf x.2.1 x.2.2 r) = true := fun y hy => by
    have := List.all_takeWhile (p := lessR x r) (l := l)
    exact List.all_eq_true.mp this y hy
  have hpp : (cPlaced x l r).Pairwise fun a b => cKeyLess (cKeyOf x.2.1 x.2.2 a) (cKeyOf x.2.1 x.2.2 b) = true := by
    unfold cPlaced
    rw [List.append_assoc]
    refine List.pairwise_append.mpr ⟨hp.sublist (List.takeWhile_sublist _), ?_, fun a ha b hb => ?_⟩
    · refine List.pairwise_cons.mpr ⟨fun y hy => hdl y hy, hp.sublist (List.dropWhile_sublist _)⟩
    · rcases List.mem_cons.mp hb with e | e
      · rw [e]; exact htk a ha
      · have hal : a ∈ l := (List.takeWhile_sublist _).subset ha
        have hbl : b ∈ l := (List.dropWhile_sublist _).subset e
        exact keyLess_trans (hlk a r) (hlk r b) (hv a (hin a hal)) (hv r hr) (hv b (hin b hbl)) (htk a ha) (hdl b e)
  refine rows_of_sorted ht (by rw [placed_len]; omega) (fun y hy => ?_) fun k hk => List.pairwise_iff_getElem.mp hpp k (k + 1) (by omega) hk (by omega)
  rcases placed_mem hy with e | e
  · exact hin y e
  · rw [e]; exact hr
theorem Draws.bind {α γ : Type} {b : List Int} {P : α → Prop} {Q : Option γ → Prop} {r : Option (α × (((List Int) × (Int × Int)) × Unit))} {f : α × (((List Int) × (Int × Int)) × Unit) → Option γ}
    (h : Draws b P r) (hf : ∀ x i g, 0 ≤ i → P x → Q (f (x, ((b, (i, g)), ())))) : Q (r.bind f) := by
  obtain ⟨x, i, g, rfl, hi, px⟩ := h
  exact hf x i g hi px
theorem drIte {γ : Type} {Q : Option γ → Prop} {c : Bool} {A B : Option γ} (h1 : c = true → Q A) (h0 : c = false → Q B) : Q (bif c then A else B) := by
  cases c
  · exact h0 rfl
  · exact h1 rfl
theorem drOk {γ : Type} {Q : Option γ → Prop} {c : Bool} {A : Option γ} (hc : c = true) (h : Q A) : Q (bif c then A else none) := by
  subst hc; exact h
theorem Draws.mk {α : Type} {b : List Int} {P : α → Prop} {x : α} {i g : Int} (hi : 0 ≤ i) (hp : P x) : Draws b P (some (x, ((b, (i, g)), ()))) := ⟨x, i, g, rfl, hi, hp⟩
theorem Draws.mono {α : Type} {b : List Int} {P Q : α → Prop} {r : Option (α × (((List Int) × (Int × Int)) × Unit))} (h : Draws b P r) (hq : ∀ x, P x → Q x) : Draws b Q r := by
  obtain ⟨x, i, g, e, hi, px⟩ := h
  exact ⟨x, i, g, e, hi, hq x px⟩
theorem below_in {x : Int} {m n : Nat} (hm : 0 < m) (hn : m = n) (q : ((0 : Int) < (m : Int) → 0 ≤ x ∧ x < (m : Int)) ∧ ((m : Int) ≤ 0 → x = 0)) : inR x n = true := by
  obtain ⟨h1, h2⟩ := q.1 (by omega)
  exact decide_eq_true ⟨h1, by omega⟩
theorem getD_small {l : List ByteArray} {k : Nat} {m : Nat} (h : ∀ x ∈ l, x.size ≤ m) : (l.getD k E0).size ≤ m := by
  by_cases hk : k < l.length
  · rw [getD_at hk]; exact h _ (List.getElem_mem hk)
  · rw [List.getD, List.getElem?_eq_none (by omega)]; exact Nat.zero_le _
theorem drawWord_ok : EV fun n => ∀ (b : List Int) (i h : Int), b.length ≤ 1048576 → 0 ≤ i → Draws b (fun s : ByteArray => s.size ≤ 9) (spec_l02Word n b i h) := below_ok.up fun n hW b i h hb hi => by
  simp only [spec_l02Word]
  refine (hW b i h 6 hb hi (by omega)).bind fun x i1 g1 p1 q1 => ?_
  refine drOk (below_in (m := 6) (by decide) (by decide) q1) (.mk p1 (getD_small ?_))
  decide
theorem drawCol_ok : EV fun n => ∀ (b : List Int) (i h : Int) (w : ByteArray), b.length ≤ 1048576 → 0 ≤ i → w.size ≤ 1048576 → Draws b (sm_Col 1048576) (spec_l02Col n b i h w) := (below_ok.and drawOf_ok).up fun n ⟨hW, hO⟩ b i h w hb hi hw => by
  simp only [spec_l02Col]
  refine (hW b i h 3 hb hi (by omega)).bind fun x1 i1 g1 p1 q1 => ?_
  refine (hW b i1 g1 3 hb p1 (by omega)).bind fun x2 i2 g2 p2 q2 => ?_
  refine (hW b i2 g2 2 hb p2 (by omega)).bind fun x3 i3 g3 p3 q3 => ?_
  refine drIte (fun _ => ?_) fun _ => .mk p3 ⟨hw, Nat.zero_le _⟩
  refine (hO b i3 g3 _ hb p3).bind fun v i4 g4 p4 q4 => ?_
  have hv : sm_Val 1048576 v := Nat.le_trans q4 (by decide)
  exact drIte (fun _ => drIte (fun _ => .mk p4 ⟨hw, Nat.zero_le _⟩) fun _ => .mk p4 ⟨hw, hv⟩) fun _ => .mk p4 ⟨hw, hv⟩
def tinyT (m : Nat) (t : T_Table) : Prop := t.1.size ≤ 9 ∧ 1 ≤ t.2.1.length ∧ t.2.1.length ≤ m ∧ t.2.2.length ≤ m ∧ (∀ c ∈ t.2.1, sm_Col 1048576 c) ∧ ∀ k ∈ t.2.2, k.size ≤ 1048576
theorem tinyT.mono {m n : Nat} {t : T_Table} (h : tinyT m t) (hm : m ≤ n) : tinyT n t := ⟨h.1, h.2.1, by have := h.2.2.1; omega, by have := h.2.2.2.1; omega, h.2.2.2.2⟩
theorem tinyT.sm {m : Nat} {t : T_Table} (h : tinyT m t) (hm : m ≤ 1048576) : sm_Table 1048576 t := ⟨Nat.le_trans h.1 (by decide), ⟨Nat.le_trans h.2.2.1 hm, h.2.2.2.2.1⟩, ⟨Nat.le_trans h.2.2.2.1 hm, h.2.2.2.2.2⟩⟩
theorem CZ_sm : sm_Col 1048576 CZ := ⟨Nat.zero_le _, Nat.zero_le _⟩
theorem getC_sm {l : T_ColS} {k : Nat} (h : ∀ c ∈ l, sm_Col 1048576 c) : sm_Col 1048576 (l.getD k CZ) := by
  by_cases hk : k < l.length
  · rw [getD_at hk]; exact h _ (List.getElem_mem hk)
  · rw [List.getD, List.getElem?_eq_none (by omega)]; exact CZ_sm
theorem setC_sm {l : T_ColS} {k : Nat} {c : T_Col} (h : ∀ c ∈ l, sm_Col 1048576 c) (hc : sm_Col 1048576 c) : ∀ x ∈ l.set k c, sm_Col 1048576 x := by
  intro x hx
  rcases List.mem_or_eq_of_mem_set hx with e | e
  · exact h x e
  · rw [e]; exact hc
theorem drawTab_ok : EV fun n => ∀ (b : List Int) (i h : Int) (w : ByteArray), b.length ≤ 1048576 → 0 ≤ i → w.size ≤ 9 → Draws b (tinyT 5) (spec_l02Draw n b i h w) := (below_ok.and (drawWord_ok.and (drawCol_ok.and (spec_ColAt_ok.and (EV.gt 10))))).up fun n ⟨hW, hS, hC, hA, hn⟩ b i h w hb hi hw => by
  simp only [spec_l02Draw]
  refine (hW b i h 4 hb hi (by omega)).bind fun x i1 g1 p1 q1 => ?_
  have q1 := q1.1 (by omega)
  obtain ⟨m, rfl⟩ := Int.eq_ofNat_of_zero_le q1.1
  have loop : ∀ (m j : Nat) (i g : Int) (e : ByteArray) (cs : T_ColS), m < j → 0 ≤ i → tinyT 4 (w, (cs, [⟨#[105, 100]⟩])) → cs.length + m ≤ 4 → Draws b (tinyT 5) (spec_l02Draw_L1 n j (m : Int) b i g e [] [] w cs [⟨#[105, 100]⟩]) := by
    intro m
    induction m with
    | zero =>
      intro j i g e cs hj hi ht hm
      obtain ⟨j, rfl⟩ : ∃ j', j = j' + 1 := ⟨j - 1, by omega⟩
      have hl := ht.2.1
      simp only at hl
      have w1 : IntKind.wrap .i64 ((cs.length : Int) - (1 : Int)) = ((cs.length - 1 : Nat) : Int) := by rw [wrap64] <;> omega
      have e0 : decide ((0 : Int) < ((0 : Nat) : Int)) = false := rfl
      simp only [spec_l02Draw_L1, e0, cond_false, w1, inR_true (show cs.length - 1 < cs.length by omega), cond_true, Int.toNat_natCast]
      refine drIte (fun _ => drIte (fun _ => ?_) fun _ => .mk hi (ht.mono (by omega))) fun _ => .mk hi (ht.mono (by omega))
      refine (hW b i g 3 hb hi (by omega)).bind fun x i2 g2 p2 q2 => ?_
      refine drIte (fun _ => drOk (by simp [room]) (.mk p2 ?_)) fun _ => .mk p2 (ht.mono (by omega))
      refine ⟨ht.1, ht.2.1, Nat.le_trans ht.2.2.1 (by omega), by simp, ht.2.2.2.2.1, fun k hk => ?_⟩
      rcases List.mem_append.mp hk with hk | hk
      · exact ht.2.2.2.2.2 k hk
      · rw [List.mem_singleton.mp hk]; exact (getC_sm ht.2.2.2.2.1).1
    | succ m ih =>
      intro j i g e cs hj hi ht hm
      obtain ⟨j, rfl⟩ : ∃ j', j = j' + 1 := ⟨j - 1, by omega⟩
      have e0 : decide ((0 : Int) < ((m + 1 : Nat) : Int)) = true := decide_eq_true (by omega)
      have w1 : IntKind.wrap .i64 (((m + 1 : Nat) : Int) - (1 : Int)) = (m : Int) := by rw [wrap64] <;> omega
      simp only [spec_l02Draw_L1, e0, cond_true, w1]
      refine (hS b i g hb hi).bind fun s i2 g2 p2 q2 => ?_
      have hs : s.size ≤ 1048576 := Nat.le_trans q2 (by decide)
      have hcl : cs.length ≤ 1048576 := by omega
      simp only [hA w cs [⟨#[105, 100]⟩] s hcl, Option.bind_some]
      refine drIte (fun _ => ?_) fun _ => ih j i2 g2 e cs (by omega) p2 ht (by omega)
      refine (hC b i2 g2 s hb p2 hs).bind fun c i3 g3 p3 q3 => ?_
      refine drOk (by simp [room]; omega) (ih j i3 g3 e _ (by omega) p3 ?_ (by simp; omega))
      refine ⟨ht.1, by simp, by simp; omega, ht.2.2.2.1, fun x hx => ?_, ht.2.2.2.2.2⟩
      rcases List.mem_append.mp hx with hx | hx
      · exact ht.2.2.2.2.1 x hx
      · rw [List.mem_singleton.mp hx]; exact q3
  refine loop m n i1 g1 E0 _ (by omega) p1 ⟨hw, by simp, by simp, by simp, fun c hc => ?_, fun k hk => ?_⟩ (by simp; omega)
  · rw [List.mem_singleton.mp hc]; exact ⟨by decide, Nat.zero_le _⟩
  · rw [List.mem_singleton.mp hk]; decide
theorem in0 {m : Nat} (h : 1 ≤ m) : inR (0 : Int) m = true := inR_true (k := 0) h
theorem tiny_set {m : Nat} {nm : ByteArray} {cs : T_ColS} {ks : T_StringS} {k : Nat} {c : T_Col} (h : tinyT m (nm, (cs, ks))) (hc : sm_Col 1048576 c) : tinyT m (nm, (cs.set k c, ks)) :=
  ⟨h.1, by have := h.2.1; simpa using this, by have := h.2.2.1; simpa using this, h.2.2.2.1, setC_sm h.2.2.2.2.1 hc, h.2.2.2.2.2⟩
theorem drawTabAny_ok : EV fun n => ∀ (b : List Int) (i h : Int), b.length ≤ 1048576 → 0 ≤ i → Draws b (tinyT 8) (spec_l02Any n b i h) := (below_ok.and (drawWord_ok.and (drawAny_ok.and drawTab_ok))).up fun n ⟨hW, hS, hA, hT⟩ b i h hb hi => by
  have k7 : ∀ (i g : Int) (e1 : ByteArray) (e2 : T_ColS) (e3 : T_StringS) (nm : ByteArray) (cs : T_ColS) (ks : T_StringS), 0 ≤ i → tinyT 8 (nm, (cs, ks)) → Draws b (tinyT 8) (spec_l02Any_K7 n 1 b i g e1 e2 e3 nm cs ks) := by
    intro i g e1 e2 e3 nm cs ks hi ht
    simp only [spec_l02Any_K7]
    exact .mk hi ht
  have k6 : ∀ (k i g : Int) (e1 : ByteArray) (e2 : T_ColS) (e3 : T_StringS) (nm : ByteArray) (cs : T_ColS) (ks : T_StringS), 0 ≤ i → tinyT 8 (nm, (cs, ks)) → Draws b (tinyT 8) (spec_l02Any_K6 n 1 k b i g e1 e2 e3 nm cs ks) := by
    intro k i g e1 e2 e3 nm cs ks hi ht
    simp only [spec_l02Any_K6]
    exact drIte (fun _ => drOk (in0 ht.2.1) (k7 _ _ _ _ _ _ _ _ hi (tiny_set ht (getC_sm ht.2.2.2.2.1)))) fun _ => k7 _ _ _ _ _ _ _ _ hi ht
  have k5 : ∀ (k i g : Int) (e1 : ByteArray) (e2 : T_ColS) (e3 : T_StringS) (nm : ByteArray) (cs : T_ColS) (ks : T_StringS), 0 ≤ i → tinyT 8 (nm, (cs, ks)) → Draws b (tinyT 8) (spec_l02Any_K5 n 1 k b i g e1 e2 e3 nm cs ks) := by
    intro k i g e1 e2 e3 nm cs ks hi ht
    simp only [spec_l02Any_K5]
    exact drIte (fun _ => k6 _ _ _ _ _ _ _ _ _ hi ⟨ht.1, ht.2.1, ht.2.2.1, Nat.zero_le _, ht.2.2.2.2.1, fun k hk => by cases hk⟩) fun _ => k6 _ _ _ _ _ _ _ _ _ hi ht
  have k4 : ∀ (k c i g : Int) (e1 : ByteArray) (e2 : T_ColS) (e3 : T_StringS) (nm : ByteArray) (cs : T_ColS) (ks : T_StringS), 0 ≤ i → inR c cs.length = true → tinyT 7 (nm, (cs, ks)) → Draws b (tinyT 8) (spec_l02Any_K4 n 1 k c b i g e1 e2 e3 nm cs ks) := by
    intro k c i g e1 e2 e3 nm cs ks hi hc ht
    simp only [spec_l02Any_K4]
    have hl := ht.2.2.1
    simp only at hl
    refine drIte (fun _ => drOk hc (drOk (by simp [room]; omega) (k5 _ _ _ _ _ _ _ _ _ hi ⟨ht.1, by simp, by simp; omega, Nat.le_trans ht.2.2.2.1 (by decide), fun x hx => ?_, ht.2.2.2.2.2⟩))) fun _ => k5 _ _ _ _ _ _ _ _ _ hi (ht.mono (by decide))
    rcases List.mem_append.mp hx with hx | hx
    · exact ht.2.2.2.2.1 x hx
    · rw [List.mem_singleton.mp hx]; exact getC_sm (l := cs) ht.2.2.2.2.1
  have k3 : ∀ (k c i g : Int) (e1 : ByteArray) (e2 : T_ColS) (e3 : T_StringS) (nm : ByteArray) (cs : T_ColS) (ks : T_StringS), 0 ≤ i → inR c cs.length = true → tinyT 6 (nm, (cs, ks)) → Draws b (tinyT 8) (spec_l02Any_K3 n 1 k c b i g e1 e2 e3 nm cs ks) := by
    intro k c i g e1 e2 e3 nm cs ks hi hc ht
    simp only [spec_l02Any_K3]
    have hl := ht.2.2.2.1
    simp only at hl
    refine drIte (fun _ => ?_) fun _ => k4 _ _ _ _ _ _ _ _ _ _ hi hc (ht.mono (by decide))
    refine (hS b i g hb hi).bind fun s i2 g2 p2 q2 => ?_
    refine drOk (by simp [room]; omega) (k4 _ _ _ _ _ _ _ _ _ _ p2 hc ⟨ht.1, ht.2.1, Nat.le_trans ht.2.2.1 (by decide), by simp; omega, ht.2.2.2.2.1, fun x hx => ?_⟩)
    rcases List.mem_append.mp hx with hx | hx
    · exact ht.2.2.2.2.2 x hx
    · rw [List.mem_singleton.mp hx]; exact Nat.le_trans q2 (by decide)
  have k2 : ∀ (k c i g : Int) (e1 : ByteArray) (e2 : T_ColS) (e3 : T_StringS) (nm : ByteArray) (cs : T_ColS) (ks : T_StringS), 0 ≤ i → inR c cs.length = true → tinyT 6 (nm, (cs, ks)) → Draws b (tinyT 8) (spec_l02Any_K2 n 1 k c b i g e1 e2 e3 nm cs ks) := by
    intro k c i g e1 e2 e3 nm cs ks hi hc ht
    simp only [spec_l02Any_K2]
    refine drIte (fun _ => ?_) fun _ => k3 _ _ _ _ _ _ _ _ _ _ hi hc ht
    refine (hA b i g hb hi).bind fun v i2 g2 p2 q2 => ?_
    exact drOk hc (k3 _ _ _ _ _ _ _ _ _ _ p2 (by rw [List.length_set]; exact hc) (tiny_set ht ⟨(getC_sm (l := cs) ht.2.2.2.2.1).1, Nat.le_trans q2 (by decide)⟩))
  have k1 : ∀ (k c i g : Int) (e1 : ByteArray) (e2 : T_ColS) (e3 : T_StringS) (nm : ByteArray) (cs : T_ColS) (ks : T_StringS), 0 ≤ i → inR c cs.length = true → tinyT 6 (nm, (cs, ks)) → Draws b (tinyT 8) (spec_l02Any_K1 n 1 k c b i g e1 e2 e3 nm cs ks) := by
    intro k c i g e1 e2 e3 nm cs ks hi hc ht
    simp only [spec_l02Any_K1]
    refine drIte (fun _ => ?_) fun _ => k2 _ _ _ _ _ _ _ _ _ _ hi hc ht
    refine (hW b i g 6 hb hi (by omega)).bind fun v i2 g2 p2 q2 => ?_
    exact drOk hc (k2 _ _ _ _ _ _ _ _ _ _ p2 (by rw [List.length_set]; exact hc) (tiny_set ht (getC_sm (l := cs) ht.2.2.2.2.1)))
  simp only [spec_l02Any]
  refine (hT b i h _ hb hi (by decide)).bind fun t i1 g1 p1 q1 => ?_
  have hl1 := q1.2.1
  have hl5 := q1.2.2.1
  refine (hW b i1 g1 14 hb p1 (by omega)).bind fun x i2 g2 p2 q2 => ?_
  refine (hW b i2 g2 (t.2.1.length : Int) hb p2 (by omega)).bind fun y i3 g3 p3 q3 => ?_
  have hy := below_in (show 0 < t.2.1.length by omega) rfl q3
  refine drIte (fun _ => ?_) fun _ => k1 _ _ _ _ _ _ _ _ _ _ p3 hy (q1.mono (by decide))
  refine (hW b i3 g3 3 hb p3 (by omega)).bind fun z i4 g4 p4 q4 => ?_
  refine drOk (below_in (m := 3) (by decide) (by decide) q4) (k1 _ _ _ _ _ _ _ _ _ _ p4 hy ?_)
  have := q1.mono (n := 6) (by decide)
  exact ⟨getD_small (by decide), this.2⟩
def tinyC (k : Nat) (l : T_TableS) : Prop := l.length ≤ k ∧ ∀ x ∈ l, tinyT 8 x
theorem room_le {m n k : Nat} (h : m ≤ n) (hn : n * k ≤ 140737488355328) (hk : n ≤ 140737488355328) : room m k = true := by
  simp only [room, decide_eq_true_eq]
  exact ⟨Nat.le_trans (Nat.mul_le_mul_right k h) hn, Nat.le_trans h hk⟩
theorem drawRow_ok : EV fun n => ∀ (b : List Int) (i h : Int) (t : T_Table), b.length ≤ 1048576 → 0 ≤ i → t.2.1.length ≤ 20 → Draws b (fun r : T_ValS => r.length = t.2.1.length ∧ ∀ v ∈ r, sm_Val 1048576 v) (spec_l03Draw n b i h t.1 t.2.1 t.2.2) := (drawOf_ok.and (EV.gt 30)).up fun n ⟨hO, hn⟩ b i h t hb hi ht => by
  obtain ⟨nm, cs, ks⟩ := t
  simp only at ht ⊢
  have loop : ∀ (m j k : Nat) (i g : Int) (e r : T_ValS), k + m = cs.length → m < j → 0 ≤ i → r.length = k → (∀ v ∈ r, sm_Val 1048576 v) → Draws b (fun r : T_ValS => r.length = cs.length ∧ ∀ v ∈ r, sm_Val 1048576 v) (spec_l03Draw_L1 n j cs (cs.length : Int) (k : Int) b i g e r) := by
    intro m
    induction m with
    | zero =>
      intro j k i g e r hk hj hi hr hv
      obtain ⟨j, rfl⟩ : ∃ j', j = j' + 1 := ⟨j - 1, by omega⟩
      have e0 : decide ((k : Int) < (cs.length : Int)) = false := decide_eq_false (by omega)
      simp only [spec_l03Draw_L1, e0, cond_false]
      exact .mk hi ⟨by omega, hv⟩
    | succ m ih =>
      intro j k i g e r hk hj hi hr hv
      obtain ⟨j, rfl⟩ : ∃ j', j = j' + 1 := ⟨j - 1, by omega⟩
      have e0 : decide ((k : Int) < (cs.length : Int)) = true := decide_eq_true (by omega)
      have hk1 : k < cs.length := by omega
      simp only [spec_l03Draw_L1, e0, cond_true, inR_true hk1, wrap_succ hk1 (by omega)]
      refine (hO b i g _ hb hi).bind fun v i2 g2 p2 q2 => ?_
      have hv2 : sm_Val 1048576 v := Nat.le_trans q2 (by decide)
      have inner : ∀ (q j2 x : Nat) (i g : Int) (c : T_Col) (v : T_Val), x + q = 9 → q < j2 → 0 ≤ i → sm_Val 1048576 v →
          Draws b (fun r : T_ValS => r.length = cs.length ∧ ∀ v ∈ r, sm_Val 1048576 v) (spec_l03Draw_L2 n (fun y40 y41 y42 y43 y44 y45 y46 y47 => spec_l03Draw_L1 n j y40 y41 y42 y43 y44 y45 y46 y47) j2 (x : Int) cs (cs.length : Int) (k : Int) b i g e r c.1 c.2.1 c.2.2.1 c.2.2.2.1 c.2.2.2.2.1 c.2.2.2.2.2.1 c.2.2.2.2.2.2 v.1 v.2.1 v.2.2) := by
        intro q
        have fin : ∀ (i g : Int) (v : T_Val), 0 ≤ i → sm_Val 1048576 v → Draws b (fun r : T_ValS => r.length = cs.length ∧ ∀ v ∈ r, sm_Val 1048576 v) (spec_l03Draw_L1 n j cs (cs.length : Int) ((k + 1 : Nat) : Int) b i g e (r ++ [v])) := by
          intro i g v hi hsv
          refine ih j (k + 1) i g e _ (by omega) (by omega) hi (by simp; omega) fun x hx => ?_
          rcases List.mem_append.mp hx with hx | hx
          · exact hv x hx
          · rw [List.mem_singleton.mp hx]; exact hsv
        have hroom : ∀ v : T_Val, room (r.length + [v].length) 32 = true := fun v => room_le (n := 40) (by simp; omega) (by decide) (by decide)
        induction q with
        | zero =>
          intro j2 x i g c v hx hj2 hi hsv
          obtain ⟨j2, rfl⟩ : ∃ j', j2 = j' + 1 := ⟨j2 - 1, by omega⟩
          have e0 : decide ((x : Int) < (9 : Int)) = false := decide_eq_false (by omega)
          simp only [spec_l03Draw_L2, e0, cond_false, wrap_succ hk1 (by omega)]
          exact drOk (hroom _) (fin i g v hi hsv)
        | succ q ih2 =>
          intro j2 x i g c v hx hj2 hi hsv
          obtain ⟨j2, rfl⟩ : ∃ j', j2 = j' + 1 := ⟨j2 - 1, by omega⟩
          have e0 : decide ((x : Int) < (9 : Int)) = true := decide_eq_true (by omega)
          simp only [spec_l03Draw_L2, e0, cond_true, wrap_succ hk1 (by omega), wrap_succ (show x < 9 by omega) (by omega)]
          refine drIte (fun _ => drIte (fun _ => ?_) fun _ => drOk (hroom _) (fin i g v hi hsv)) fun _ => drOk (hroom _) (fin i g v hi hsv)
          refine (hO b i g _ hb hi).bind fun v2 i2 g2 p2 q2 => ?_
          exact ih2 j2 (x + 1) i2 g2 c v2 (by omega) (by omega) p2 (Nat.le_trans q2 (by decide))
      exact inner 9 n 0 i2 g2 (cs.getD k CZ) v (by omega) (by omega) p2 hv2
  simp only [spec_l03Draw]
  exact loop cs.length n 0 i h [] [] (by omega) (by omega) hi rfl (fun v hv => by cases hv)
theorem cRowPut_sm {x : T_Table} {l : T_RowS} {r : T_Row} (hx : sm_Table 1048576 x) (hl : sm_RowS 1048576 l) (hr : sm_Row 1048576 r) : sm_RowS 1048576 (cRowPut x l r).1 := by
  obtain ⟨n, h⟩ := same_RowPut
  obtain ⟨n2, h2⟩ := spec_RowPut_ok
  obtain ⟨q, e1, _, e3⟩ := h (max n n2) (Nat.le_max_left ..) x l r hx hl hr
  rw [h2 (max n n2) (Nat.le_max_right ..) x l r hx hl hr.1] at e1
  obtain rfl := Option.some.inj e1; exact e3
theorem drawRows_ok : EV fun n => ∀ (b : List Int) (i h : Int) (t : T_Table), b.length ≤ 1048576 → 0 ≤ i → t.2.1.length ≤ 20 → sm_Table 1048576 t → 1 ≤ t.2.1.length → Draws b (fun l : T_RowS => sm_RowS 1048576 l ∧ l.length ≤ 60 ∧ ∀ r ∈ l, 1 ≤ r.length) (spec_l03Rows n b i h t.1 t.2.1 t.2.2) := (below_ok.and (drawRow_ok.and (spec_RowPut_ok.and (EV.gt 10)))).up fun n ⟨hW, hR, hP, hn⟩ b i h t hb hi ht hs h1 => by
  have loop : ∀ (m j : Nat) (i g : Int) (l : T_RowS), m < j → m ≤ 10 → 0 ≤ i → (sm_RowS 1048576 l ∧ l.length ≤ 60 ∧ ∀ r ∈ l, 1 ≤ r.length) → Draws b (fun l : T_RowS => sm_RowS 1048576 l ∧ l.length ≤ 60 ∧ ∀ r ∈ l, 1 ≤ r.length) (spec_l03Rows_L1 n j (m : Int) b i g t.1 t.2.1 t.2.2 l) := by
    intro m
    induction m with
    | zero =>
      intro j i g l hj h10 hi hl
      obtain ⟨j, rfl⟩ : ∃ j', j = j' + 1 := ⟨j - 1, by omega⟩
      have e0 : decide ((0 : Int) < ((0 : Nat) : Int)) = false := rfl
      simp only [spec_l03Rows_L1, e0, cond_false]
      exact .mk hi hl
    | succ m ih =>
      intro j i g l hj h10 hi hl
      obtain ⟨j, rfl⟩ : ∃ j', j = j' + 1 := ⟨j - 1, by omega⟩
      have e0 : decide ((0 : Int) < ((m + 1 : Nat) : Int)) = true := decide_eq_true (by omega)
      have w1 : IntKind.wrap .i64 (((m + 1 : Nat) : Int) - (1 : Int)) = (m : Int) := by rw [wrap64] <;> omega
      simp only [spec_l03Rows_L1, e0, cond_true, w1]
      refine (hR b i g t hb hi ht).bind fun r i2 g2 p2 q2 => ?_
      have hr : sm_Row 1048576 r := ⟨by omega, q2.2⟩
      simp only [hP t l r hs hl.1 hr.1, Option.bind_some, int_beq]
      refine drIte (fun hz => ih j i2 g2 _ (by omega) (by omega) p2 ⟨cRowPut_sm hs hl.1 hr, ?_⟩) fun _ => ih j i2 g2 _ (by omega) (by omega) p2 hl
      unfold cRowPut
      split
      · split
        · split
          · exact ⟨Nat.zero_le _, fun r hr => by cases hr⟩
          · split
            · exact ⟨Nat.zero_le _, fun r hr => by cases hr⟩
            · have hlen : (cPlaced t l r).length = l.length + 1 := by
                have := congrArg List.length (List.takeWhile_append_dropWhile (p := lessR t r) (l := l))
                simp only [cPlaced, List.length_append, List.length_cons, List.length_nil] at this ⊢
                omega
              refine ⟨by have := hl.2.1; simp only [hlen]; omega, fun x hx => ?_⟩
              simp only [cPlaced, List.mem_append, List.mem_singleton] at hx
              rcases hx with (hx | hx) | hx
              · exact hl.2.2 x ((List.takeWhile_sublist _).subset hx)
              · rw [hx]; omega
              · exact hl.2.2 x ((List.dropWhile_sublist _).subset hx)
        · exact ⟨Nat.zero_le _, fun r hr => by cases hr⟩
      · exact ⟨Nat.zero_le _, fun r hr => by cases hr⟩
  simp only [spec_l03Rows]
  refine (hW b i h 7 hb hi (by omega)).bind fun x i1 g1 p1 q1 => ?_
  have q1 := q1.1 (by omega)
  obtain ⟨m, rfl⟩ := Int.eq_ofNat_of_zero_le q1.1
  exact loop m n i1 g1 [] (by omega) (by omega) p1 ⟨smr_nil, Nat.zero_le _, fun r hr => by cases hr⟩
def Draws2 {α β : Type} (b : List Int) (P : α → β → Prop) (r : Option (α × (β × (((List Int) × (Int × Int)) × Unit)))) : Prop := ∃ x y i h, r = some (x, (y, ((b, (i, h)), ()))) ∧ 0 ≤ i ∧ P x y
theorem Draws2.mk {α β : Type} {b : List Int} {P : α → β → Prop} {x : α} {y : β} {i g : Int} (hi : 0 ≤ i) (hp : P x y) : Draws2 b P (some (x, (y, ((b, (i, g)), ())))) := ⟨x, y, i, g, rfl, hi, hp⟩
theorem Draws2.bind {α β γ : Type} {b : List Int} {P : α → β → Prop} {Q : Option γ → Prop} {r : Option (α × (β × (((List Int) × (Int × Int)) × Unit)))} {f : α × (β × (((List Int) × (Int × Int)) × Unit)) → Option γ}
    (h : Draws2 b P r) (hf : ∀ x y i g, 0 ≤ i → P x y → Q (f (x, (y, ((b, (i, g)), ()))))) : Q (r.bind f) := by
  obtain ⟨x, y, i, g, rfl, hi, px⟩ := h
  exact hf x y i g hi px
def rowsP (m : Nat) (l : T_RowS) : Prop := sm_RowS 1048576 l ∧ l.length ≤ m ∧ ∀ r ∈ l, 1 ≤ r.length
theorem rowsP.mono {m n : Nat} {l : T_RowS} (h : rowsP m l) (hm : m ≤ n) : rowsP n l := ⟨h.1, Nat.le_trans h.2.1 hm, h.2.2⟩
theorem rowsP.set {m k : Nat} {l : T_RowS} {r : T_Row} (h : rowsP m l) (hr : sm_Row 1048576 r) (h1 : 1 ≤ r.length) : rowsP m (l.set k r) :=
  ⟨⟨by rw [List.length_set]; exact h.1.1, fun x hx => by
      rcases List.mem_or_eq_of_mem_set hx with e | e
      · exact h.1.2 x e
      · rw [e]; exact hr⟩, by rw [List.length_set]; exact h.2.1, fun x hx => by
      rcases List.mem_or_eq_of_mem_set hx with e | e
      · exact h.2.2 x e
      · rw [e]; exact h1⟩
theorem rowsP.add {m : Nat} {l : T_RowS} {r : T_Row} (h : rowsP m l) (hm : m < 1048576) (hr : sm_Row 1048576 r) (h1 : 1 ≤ r.length) : rowsP (m + 1) (l ++ [r]) := by
  have hl := h.2.1
  refine ⟨⟨by simp; omega, fun x hx => ?_⟩, by simp; omega, fun x hx => ?_⟩
  · rcases List.mem_append.mp hx with hx | hx
    · exact h.1.2 x hx
    · rw [List.mem_singleton.mp hx]; exact hr
  · rcases List.mem_append.mp hx with hx | hx
    · exact h.2.2 x hx
    · rw [List.mem_singleton.mp hx]; exact h1
theorem setV_sm {r : T_Row} {k : Nat} {v : T_Val} (h : sm_Row 1048576 r) (hv : sm_Val 1048576 v) : sm_Row 1048576 (r.set k v) :=
  ⟨by rw [List.length_set]; exact h.1, fun x hx => by
    rcases List.mem_or_eq_of_mem_set hx with e | e
    · exact h.2 x e
    · rw [e]; exact hv⟩
theorem drawAnyRows_ok : EV fun n => ∀ (b : List Int) (i h : Int), b.length ≤ 1048576 → 0 ≤ i → Draws2 b (fun t l => tinyT 8 t ∧ rowsP 70 l) (spec_l03Any n b i h) := (below_ok.and (drawAny_ok.and (drawTab_ok.and (drawTabAny_ok.and (drawRows_ok.and (EV.gt 100)))))).up fun n ⟨hW, hV, hT, hA, hR, hn⟩ b i h hb hi => by
  have k6 : ∀ (i g : Int) (e1 : ByteArray) (e2 : T_ColS) (e3 : T_StringS) (t : T_Table) (l : T_RowS), 0 ≤ i → tinyT 8 t → rowsP 70 l → Draws2 b (fun t l => tinyT 8 t ∧ rowsP 70 l) (spec_l03Any_K6 n 1 b i g e1 e2 e3 t.1 t.2.1 t.2.2 l) := by
    intro i g e1 e2 e3 t l hi ht hl
    simp only [spec_l03Any_K6]
    exact .mk hi ⟨ht, hl⟩
  have loop : ∀ (m j k : Nat) (i g : Int) (e1 : ByteArray) (e2 : T_ColS) (e3 : T_StringS) (t : T_Table) (l : T_RowS), k + m = 65 → m < j → 0 ≤ i → tinyT 8 t → rowsP k l → Draws2 b (fun t l => tinyT 8 t ∧ rowsP 70 l) (spec_l03Any_L5 n j (k : Int) b i g e1 e2 e3 t.1 t.2.1 t.2.2 l) := by
    intro m
    induction m with
    | zero =>
      intro j k i g e1 e2 e3 t l hk hj hi ht hl
      obtain ⟨j, rfl⟩ : ∃ j', j = j' + 1 := ⟨j - 1, by omega⟩
      simp only [spec_l03Any_L5]
      refine (hW b i g 3 hb hi (by omega)).bind fun x i2 g2 p2 q2 => ?_
      have q2 := q2.1 (by omega)
      have w1 : IntKind.wrap .i64 ((59 : Int) + x) = 59 + x := by rw [wrap64] <;> omega
      have e0 : decide ((k : Int) < 59 + x) = false := decide_eq_false (by omega)
      simp only [w1, e0, cond_false]
      exact k6 _ _ _ _ _ _ _ p2 ht (hl.mono (by omega))
    | succ m ih =>
      intro j k i g e1 e2 e3 t l hk hj hi ht hl
      obtain ⟨j, rfl⟩ : ∃ j', j = j' + 1 := ⟨j - 1, by omega⟩
      simp only [spec_l03Any_L5]
      refine (hW b i g 3 hb hi (by omega)).bind fun x i2 g2 p2 q2 => ?_
      refine drIte (fun _ => ?_) fun _ => k6 _ _ _ _ _ _ _ p2 ht (hl.mono (by omega))
      have hl2 := hl.2.1
      rw [wrap_succ (show k < 65 by omega) (by omega)]
      exact drOk (room_le (n := 100) (by simp; omega) (by decide) (by decide)) (ih j (k + 1) i2 g2 e1 e2 e3 t _ (by omega) (by omega) p2 ht (hl.add (by omega) ⟨by simp, fun v hv => by rw [List.mem_singleton.mp hv]; exact Nat.zero_le _⟩ (by simp)))
  have k4 : ∀ (k i g : Int) (e1 : ByteArray) (e2 : T_ColS) (e3 : T_StringS) (t : T_Table) (l : T_RowS), 0 ≤ i → tinyT 8 t → rowsP 61 l → Draws2 b (fun t l => tinyT 8 t ∧ rowsP 70 l) (spec_l03Any_K4 n 1 k b i g e1 e2 e3 t.1 t.2.1 t.2.2 l) := by
    intro k i g e1 e2 e3 t l hi ht hl
    simp only [spec_l03Any_K4]
    refine drIte (fun _ => ?_) fun _ => k6 _ _ _ _ _ _ _ hi ht (hl.mono (by omega))
    refine (hW b i g 5 hb hi (by omega)).bind fun x i2 g2 p2 q2 => ?_
    refine drIte (fun _ => ?_) fun _ => k6 _ _ _ _ _ _ _ p2 ht (hl.mono (by omega))
    refine loop 65 n 0 i2 g2 e1 e2 e3 (⟨#[116]⟩, ([(⟨#[105, 100]⟩, (2, (true, (false, (0, (0, E0))))))], [⟨#[105, 100]⟩])) [] (by omega) (by omega) p2 ⟨by decide, by simp, by simp, by simp, fun c hc => ?_, fun k hk => ?_⟩ ⟨smr_nil, Nat.le_refl _, fun r hr => by cases hr⟩
    · rw [List.mem_singleton.mp hc]; exact ⟨by decide, Nat.zero_le _⟩
    · rw [List.mem_singleton.mp hk]; decide
  have k3 : ∀ (k m i g : Int) (e1 : ByteArray) (e2 : T_ColS) (e3 : T_StringS) (t : T_Table) (l : T_RowS), 0 ≤ i → tinyT 8 t → rowsP 60 l → m = (l.length : Int) → Draws2 b (fun t l => tinyT 8 t ∧ rowsP 70 l) (spec_l03Any_K3 n 1 k m b i g e1 e2 e3 t.1 t.2.1 t.2.2 l) := by
    intro k m i g e1 e2 e3 t l hi ht hl hm
    subst hm
    have hl2 := hl.2.1
    simp only [spec_l03Any_K3]
    refine drIte (fun _ => drIte (fun hp => ?_) fun _ => k4 _ _ _ _ _ _ _ _ hi ht (hl.mono (by omega))) fun _ => k4 _ _ _ _ _ _ _ _ hi ht (hl.mono (by omega))
    have hp := of_decide_eq_true hp
    have w1 : IntKind.wrap .i64 ((l.length : Int) - (1 : Int)) = ((l.length - 1 : Nat) : Int) := by rw [wrap64] <;> omega
    have hlt : l.length - 1 < l.length := by omega
    simp only [w1, Int.toNat_natCast, getD_at hlt]
    exact drOk (inR_true hlt) (drOk (room_le (n := 100) (by simp; omega) (by decide) (by decide)) (k4 _ _ _ _ _ _ _ _ hi ht (hl.add (by omega) (hl.1.2 _ (List.getElem_mem hlt)) (hl.2.2 _ (List.getElem_mem hlt)))))
  have k2 : ∀ (k m i g : Int) (e1 : ByteArray) (e2 : T_ColS) (e3 : T_StringS) (t : T_Table) (l : T_RowS), 0 ≤ i → tinyT 8 t → rowsP 60 l → m = (l.length : Int) → Draws2 b (fun t l => tinyT 8 t ∧ rowsP 70 l) (spec_l03Any_K2 n 1 k m b i g e1 e2 e3 t.1 t.2.1 t.2.2 l) := by
    intro k m i g e1 e2 e3 t l hi ht hl hm
    subst hm
    have hl2 := hl.2.1
    simp only [spec_l03Any_K2]
    refine drIte (fun _ => drIte (fun hp => ?_) fun _ => k3 _ _ _ _ _ _ _ _ _ hi ht hl rfl) fun _ => k3 _ _ _ _ _ _ _ _ _ hi ht hl rfl
    have hp := of_decide_eq_true hp
    have w1 : IntKind.wrap .i64 ((l.length : Int) - (1 : Int)) = ((l.length - 1 : Nat) : Int) := by rw [wrap64] <;> omega
    have hlt : l.length - 1 < l.length := by omega
    have hlt0 : 0 < l.length := by omega
    simp only [w1, Int.toNat_natCast, show (0 : Int).toNat = 0 from rfl, getD_at hlt, getD_at hlt0]
    have s0 := hl.1.2 _ (List.getElem_mem hlt0)
    have s1 := hl.1.2 _ (List.getElem_mem hlt)
    have t0 := hl.2.2 _ (List.getElem_mem hlt0)
    have t1 := hl.2.2 _ (List.getElem_mem hlt)
    refine drOk (in0 hlt0) (drOk (inR_true hlt) (drOk (in0 hlt0) (drOk (by rw [List.length_set]; exact inR_true hlt) (k3 _ _ _ _ _ _ _ _ _ hi ht ((hl.set s1 t1).set s0 t0) (by simp)))))
  have k1 : ∀ (k m i g : Int) (e1 : ByteArray) (e2 : T_ColS) (e3 : T_StringS) (t : T_Table) (l : T_RowS), 0 ≤ i → tinyT 8 t → rowsP 60 l → m = (l.length : Int) → Draws2 b (fun t l => tinyT 8 t ∧ rowsP 70 l) (spec_l03Any_K1 n 1 k m b i g e1 e2 e3 t.1 t.2.1 t.2.2 l) := by
    intro k m i g e1 e2 e3 t l hi ht hl hm
    subst hm
    simp only [spec_l03Any_K1]
    refine drIte (fun _ => drIte (fun hp => ?_) fun _ => k2 _ _ _ _ _ _ _ _ _ hi ht hl rfl) fun _ => k2 _ _ _ _ _ _ _ _ _ hi ht hl rfl
    have hp := of_decide_eq_true hp
    have hlt0 : 0 < l.length := by omega
    simp only [show (0 : Int).toNat = 0 from rfl, getD_at hlt0]
    have s0 := hl.1.2 _ (List.getElem_mem hlt0)
    have t0 := hl.2.2 _ (List.getElem_mem hlt0)
    refine drOk (in0 hlt0) ?_
    refine (hV b i g hb hi).bind fun v i2 g2 p2 q2 => ?_
    exact drOk (in0 t0) (k2 _ _ _ _ _ _ _ _ _ p2 ht (hl.set (setV_sm s0 (Nat.le_trans q2 (by decide))) (by rw [List.length_set]; exact t0)) (by simp))
  simp only [spec_l03Any]
  refine (hT b i h _ hb hi (by decide)).bind fun t i1 g1 p1 q1 => ?_
  have hc := q1.2.2.1
  refine (hR b i1 g1 t hb p1 (by omega) (q1.sm (by decide)) q1.2.1).bind fun l i2 g2 p2 q2 => ?_
  refine (hW b i2 g2 14 hb p2 (by omega)).bind fun x i3 g3 p3 q3 => ?_
  refine drIte (fun _ => ?_) fun _ => k1 _ _ _ _ _ _ _ _ _ p3 (q1.mono (by decide)) q2 rfl
  refine (hA b i3 g3 hb p3).bind fun t2 i4 g4 p4 q4 => ?_
  exact k1 _ _ _ _ _ _ _ _ _ p4 q4 q2 rfl
theorem drawAnyRow_ok : EV fun n => ∀ (b : List Int) (i h : Int) (t : T_Table), b.length ≤ 1048576 → 0 ≤ i → t.2.1.length ≤ 20 → Draws b (sm_Row 1048576) (spec_l03AnyRow n b i h t.1 t.2.1 t.2.2) := (below_ok.and (drawAny_ok.and drawRow_ok)).up fun n ⟨hW, hV, hR⟩ b i h t hb hi ht => by
  have k2 : ∀ (i g : Int) (e r : T_ValS), 0 ≤ i → sm_Row 1048576 r → Draws b (sm_Row 1048576) (spec_l03AnyRow_K2 n 1 b i g e r) := by
    intro i g e r hi hr
    simp only [spec_l03AnyRow_K2]
    exact .mk hi hr
  have k1 : ∀ (k i g : Int) (e r : T_ValS), 0 ≤ i → sm_Row 1048576 r → r.length ≤ 100 → Draws b (sm_Row 1048576) (spec_l03AnyRow_K1 n 1 k b i g e r) := by
    intro k i g e r hi hr hl
    simp only [spec_l03AnyRow_K1]
    refine drIte (fun _ => drIte (fun hp => ?_) fun _ => k2 _ _ _ _ hi hr) fun _ => k2 _ _ _ _ hi hr
    have hp := of_decide_eq_true hp
    refine (hW b i g (r.length : Int) hb hi (by omega)).bind fun x i2 g2 p2 q2 => ?_
    refine (hV b i2 g2 hb p2).bind fun v i3 g3 p3 q3 => ?_
    exact drOk (below_in (show 0 < r.length by omega) rfl q2) (k2 _ _ _ _ p3 (setV_sm hr (Nat.le_trans q3 (by decide))))
  simp only [spec_l03AnyRow]
  refine (hR b i h t hb hi ht).bind fun r i1 g1 p1 q1 => ?_
  have hrl : r.length ≤ 20 := by rw [q1.1]; exact ht
  have hr : sm_Row 1048576 r := ⟨by omega, q1.2⟩
  refine (hW b i1 g1 12 hb p1 (by omega)).bind fun x i2 g2 p2 q2 => ?_
  refine drIte (fun _ => ?_) fun _ => k1 _ _ _ _ _ p2 hr (Nat.le_trans hrl (by decide))
  refine drOk (room_le (n := 100) (by simp; omega) (by decide) (by decide)) (k1 _ _ _ _ _ p2 ⟨by simp; omega, fun v hv => ?_⟩ (by simp; omega))
  rcases List.mem_append.mp hv with hv | hv
  · exact hr.2 v hv
  · rw [List.mem_singleton.mp hv]; exact Nat.zero_le _
theorem drawRowPut_ok : EV fun n => ∀ b : List Int, b.length ≤ 1048576 → ∃ (t : T_Table) (l : T_RowS) (r : T_Row), spec_DrawRowPut n b = some (t, (l, (r, ()))) ∧ sm_Table 1048576 t ∧ sm_RowS 1048576 l ∧ sm_Row 1048576 r := (new_ok.and (drawAnyRows_ok.and drawAnyRow_ok)).up fun n ⟨hN, hA, hR⟩ b hb => by
  obtain ⟨h, e0⟩ := hN b hb
  obtain ⟨t, l, i1, g1, e1, p1, q1, q2⟩ := hA b 0 h hb (by omega)
  have hc := q1.2.2.1
  obtain ⟨r, i2, g2, e2, p2, q3⟩ := hR b i1 g1 t hb p1 (by omega)
  simp only [spec_DrawRowPut, e0, e1, e2, Option.bind_some]
  exact ⟨_, _, _, rfl, q1.sm (by decide), q2.1, q3⟩
theorem keyOk_of {x : T_Table} {r : T_Row} (h : cTableOk x = true) (hr : cRowIn x.2.1 r = true) : cKeyOk x (cKeyOf x.2.1 x.2.2 r) = true := by
  obtain ⟨h1, h2⟩ := rowIn_iff.mp hr
  simp only [cKeyOk, h, keyOf_len, decide_true, Bool.true_and]
  refine (allFrom_iff _ _ _).mpr fun i hi => ?_
  obtain ⟨p, e1, hp, _⟩ := key_facts h (List.getElem_mem hi)
  have hpr : p < r.length := by omega
  rw [Nat.zero_add, e1, Int.toNat_natCast, getD_at hp, getD_at (by rw [keyOf_len]; exact hi)]
  simp only [cKeyOf, List.getElem_map, e1, Int.toNat_natCast, getD_at hpr]
  exact h2 p hp hpr
theorem idx_first {α : Type} {p : α → Bool} : ∀ (l m : List α) (x : α) (k : Nat), (∀ y ∈ l, p y = false) → p x = true → idxFrom p (l ++ x :: m) k = ((k + l.length : Nat) : Int)
  | [], m, x, k, _, hx => by simp [idxFrom, hx]
  | y :: l, m, x, k, h, hx => by
    simp only [List.cons_append, idxFrom, h y (List.mem_cons_self ..), if_neg (show ¬ (false = true) by decide), List.length_cons]
    rw [idx_first l m x (k + 1) (fun z hz => h z (List.mem_cons_of_mem _ hz)) hx]
    omega
/-- a row that was put: where it stands, and that the rows without it are the rows as they were -/
theorem put_facts {x : T_Table} {l : T_RowS} {r : T_Row} (hz : (cRowPut x l r).2.1 = 0) : cRowsOk x l = true ∧ cRowIn x.2.1 r = true ∧ cRowsOk x (cRowPut x l r).1 = true ∧
    ∃ k : Nat, keyIdx x (cRowPut x l r).1 (cKeyOf x.2.1 x.2.2 r) = (k : Int) ∧ without (cRowPut x l r).1 k = l := by
  unfold cRowPut at hz ⊢
  by_cases h1 : cRowsOk x l = true
  rotate_left
  · rw [if_neg h1] at hz; cases hz
  rw [if_pos h1] at hz ⊢
  by_cases h2 : cRowIn x.2.1 r = true
  rotate_left
  · rw [if_neg h2] at hz; cases hz
  rw [if_pos h2] at hz ⊢
  by_cases h3 : 0 ≤ keyIdx x l (cKeyOf x.2.1 x.2.2 r)
  · rw [if_pos h3] at hz; cases hz
  rw [if_neg h3] at hz ⊢
  by_cases h4 : l.length = 60
  · rw [if_pos h4] at hz; cases hz
  rw [if_neg h4]
  obtain ⟨ht, h60, _⟩ := rows_in h1
  have hne := keys_ne h3
  refine ⟨h1, h2, placed_ok h1 (by omega) h2 hne, (l.takeWhile (lessR x r)).length, ?_, ?_⟩
  · show idxFrom _ (cPlaced x l r) 0 = _
    unfold cPlaced
    rw [List.append_assoc]
    rw [List.singleton_append, idx_first _ _ _ _ (fun y hy => ?_) (by simp)]
    · simp
    · exact decide_eq_false (hne y ((List.takeWhile_sublist _).subset hy))
  · unfold cPlaced without
    simp only [List.append_assoc, List.singleton_append]
    rw [List.take_left, ← List.drop_drop, List.drop_left]
    simp
def tinyD (m : Nat) (d : T_Ddl) : Prop := d.2.1.size ≤ 1048576 ∧ d.2.2.1.length ≤ m ∧ (∀ c ∈ d.2.2.1, sm_Col 1048576 c) ∧ d.2.2.2.1.length ≤ m ∧ (∀ k ∈ d.2.2.2.1, k.size ≤ 1048576) ∧ d.2.2.2.2.1.size ≤ 1048576 ∧ d.2.2.2.2.2.size ≤ 1048576
theorem tinyD.sm {m : Nat} {d : T_Ddl} (h : tinyD m d) (hm : m ≤ 1048576) : sm_Ddl 1048576 d := ⟨h.1, ⟨Nat.le_trans h.2.1 hm, h.2.2.1⟩, ⟨Nat.le_trans h.2.2.2.1 hm, h.2.2.2.2.1⟩, h.2.2.2.2.2.1, h.2.2.2.2.2.2⟩
def tinyDb (m k : Nat) (d : T_Db) : Prop := tinyC m d.1 ∧ d.2.length ≤ k ∧ ∀ l ∈ d.2, rowsP 60 l
theorem tinyDb.sm {m k : Nat} {d : T_Db} (h : tinyDb m k d) (hm : m ≤ 1048576) (hk : k ≤ 1048576) : sm_Db 1048576 d :=
  ⟨⟨Nat.le_trans h.1.1 hm, fun t ht => (h.1.2 t ht).sm (by decide)⟩, ⟨Nat.le_trans h.2.1 hk, fun l hl => (h.2.2 l hl).1⟩⟩
def tinyV (m : Nat) (l : T_ValS) : Prop := l.length ≤ m ∧ ∀ v ∈ l, sm_Val 1048576 v
def tinyS (m : Nat) (s : T_Stmt) : Prop := s.2.1.size ≤ 1048576 ∧ tinyV m s.2.2.1 ∧ tinyV m s.2.2.2.1 ∧ tinyD 9 s.2.2.2.2
theorem tinyS.sm {m : Nat} {s : T_Stmt} (h : tinyS m s) (hm : m ≤ 1048576) : sm_Stmt 1048576 s := ⟨h.1, ⟨Nat.le_trans h.2.1.1 hm, h.2.1.2⟩, ⟨Nat.le_trans h.2.2.1.1 hm, h.2.2.1.2⟩, h.2.2.2.sm (by decide)⟩
theorem law_FnUndo : EV fun n => ∀ (x0 : T_ByteS), sm_ByteS 140737488355328 x0 → laws_FnUndo n x0 = some true := (drawRowPut_ok.and (impl_RowPut_ok.and (spec_RowPut_ok.and (impl_KeyOf_ok.and (impl_RowAt_ok.and (impl_RowOut_ok.and (impl_SameRows_ok.and impl_RowsOk_ok))))))).up fun n ⟨hD, hP, hS, hK, hA, hO, hE, hR⟩ x0 _ => by
  rw [laws_FnUndo]
  by_cases hb : x0.length ≤ 1048576
  · have e0 : decide ((1048576 : Int) < (x0.length : Int)) = false := decide_eq_false (by omega)
    obtain ⟨t, l, r, e, st, sl, sr⟩ := hD x0 hb
    simp only [e0, cond_false, e, Option.bind_some, hP t l r st sl sr.1, hS t l r st sl sr.1, int_bne, decide_true, Bool.not_true]
    by_cases hz : (cRowPut t l r).2.1 = 0
    · obtain ⟨h1, h2, h3, k, h4, h5⟩ := put_facts hz
      have sm := cRowPut_sm st sl sr
      obtain ⟨ht, _, _⟩ := rows_in h1
      have hk : cKey t r = cKeyOf t.2.1 t.2.2 r := by unfold cKey; rw [ht, h2]; rfl
      have hat : cRowAt t (cRowPut t l r).1 (cKeyOf t.2.1 t.2.2 r) = (k : Int) := by unfold cRowAt; rw [if_pos h3]; exact h4
      have hout : cRowOut t (cRowPut t l r).1 (cKeyOf t.2.1 t.2.2 r) = (l, (0, ())) := by
        unfold cRowOut
        have h4' : idx (fun q => decide (cKeyOf t.2.1 t.2.2 q = cKeyOf t.2.1 t.2.2 r)) (cRowPut t l r).1 = (k : Int) := h4
        rw [if_pos h3, h4', if_pos ⟨keyOk_of ht h2, by omega⟩, Int.toNat_natCast, h5]
      have hagain : cRowPut t (cRowPut t l r).1 r = ([], (3, ())) := by
        have : ∀ m : T_RowS, cRowsOk t m = true → 0 ≤ keyIdx t m (cKeyOf t.2.1 t.2.2 r) → cRowPut t m r = ([], (3, ())) := by
          intro m a b
          unfold cRowPut
          rw [if_pos a, if_pos h2, if_pos b]
        exact this _ h3 (by rw [h4]; omega)
      simp only [hz, decide_true, Bool.not_true, cond_false, hK t r st, hk, hA t _ _ st sm.1, hat, hO t _ _ st sm, hout, hP t _ r st sm sr.1, hagain, hE _ _ sl, hR t _ st sm.1, h3, Option.bind_some, int_beq]
      have : decide ((0 : Int) ≤ (k : Int)) = true := decide_eq_true (by omega)
      simp only [this, decide_true, cond_true]
    · have hnil : (cRowPut t l r).1 = [] := by
        unfold cRowPut at hz ⊢
        repeat' split
        all_goals first | rfl | (simp_all; done)
      simp only [hz, decide_false, Bool.not_false, cond_true, hnil]; rfl
  · have e0 : decide ((1048576 : Int) < (x0.length : Int)) = true := decide_eq_true (by omega)
    simp only [e0, cond_true]
end Go.Proofs.Ytalmhjlcjcnidaa.Ev

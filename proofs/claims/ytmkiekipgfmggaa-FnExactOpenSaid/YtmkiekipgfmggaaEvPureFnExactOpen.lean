/- Words for the plain laws: what holds from some fuel on; steps of loops over lists; texts as lists of bytes. -/
import Derived.Test.YtmkiekipgfmggaaEvFnFnExactOpen
import Derived.Test.YtmkiekipgfmggaaEvLaw
set_option linter.all false
namespace Go.Proofs.Ytmkiekipgfmggaa.Ev
open Go
set_option linter.unusedVariables false
/-- from some fuel on -/
def EV (p : Nat → Prop) : Prop := ∃ N, ∀ n, N ≤ n → p n
theorem EV.and {p q : Nat → Prop} (h1 : EV p) (h2 : EV q) : EV fun n => p n ∧ q n := by
  obtain ⟨N, h1⟩ := h1; obtain ⟨M, h2⟩ := h2
  exact ⟨max N M, fun n hn => ⟨h1 n (by omega), h2 n (by omega)⟩⟩
theorem EV.mono {p q : Nat → Prop} (h : EV p) (hpq : ∀ n, p n → q n) : EV q := by
  obtain ⟨N, h⟩ := h; exact ⟨N, fun n hn => hpq n (h n hn)⟩
theorem EV.gt (k : Nat) : EV fun n => k < n := ⟨k + 1, fun n hn => hn⟩
theorem EV.true : EV fun _ => True := ⟨0, fun _ _ => trivial⟩
theorem EV.of {p : Nat → Prop} (h : ∀ n, p n) : EV p := ⟨0, fun n _ => h n⟩
/-- one call deeper -/
theorem EV.up {p q : Nat → Prop} (h : EV p) (hpq : ∀ n, p n → q (n + 1)) : EV q := by
  obtain ⟨N, h⟩ := h
  refine ⟨N + 1, fun n hn => ?_⟩
  obtain ⟨m, rfl⟩ : ∃ m, n = m + 1 := ⟨n - 1, by omega⟩
  exact hpq m (h m (by omega))
theorem EV.all {α : Type} {p : α → Nat → Prop} : ∀ {l : List α}, (∀ x ∈ l, EV (p x)) → EV fun n => ∀ x ∈ l, p x n
  | [], _ => ⟨0, by simp⟩
  | a :: l, h => ((h a (List.mem_cons_self ..)).and (EV.all fun x hx => h x (List.mem_cons_of_mem _ hx))).mono fun n hn x hx => by
      rcases List.mem_cons.mp hx with rfl | hx
      · exact hn.1
      · exact hn.2 x hx
/-! ### whole numbers -/
theorem wrap64 {x : Int} (h1 : -9223372036854775808 ≤ x) (h2 : x ≤ 9223372036854775807) : IntKind.wrap .i64 x = x := by
  have e : IntKind.wrap .i64 x = (if x % 18446744073709551616 ≥ 9223372036854775808 then x % 18446744073709551616 - 18446744073709551616 else x % 18446744073709551616) := by
    simp [IntKind.wrap, IntKind.bits, IntKind.signed]
  rw [e]; split <;> omega
theorem inR_nat {k n : Nat} : inR (k : Int) n = decide (k < n) := by simp [inR]
theorem inR_true {k n : Nat} (h : k < n) : inR (k : Int) n = true := by simp [inR_nat, h]
theorem wrap_succ {k n : Nat} (h : k < n) (hn : n < 4611686018427387904) : IntKind.wrap .i64 ((k : Int) + (1 : Int)) = ((k + 1 : Nat) : Int) := by
  rw [wrap64] <;> omega
theorem lt_cast {k n : Nat} : (decide ((k : Int) < (n : Int))) = decide (k < n) := by simp
theorem getD_at {α : Type} {l : List α} {k : Nat} {z : α} (h : k < l.length) : l.getD k z = l[k] := by simp [List.getD, h]
theorem int_beq (a b : Int) : (a == b) = decide (a = b) := by by_cases h : a = b <;> simp [h]
theorem int_bne (a b : Int) : (a != b) = !decide (a = b) := by by_cases h : a = b <;> simp [bne, h]
/-! ### texts -/
theorem data_len (s : ByteArray) : s.data.toList.length = s.size := by rw [Array.length_toList]; rfl
theorem toList_data (s : ByteArray) : s.toList = s.data.toList := by
  have h : ∀ (n i : Nat) (r : List UInt8), s.size - i = n → ByteArray.toList.loop s i r = r.reverse ++ s.data.toList.drop i := by
    intro n
    induction n with
    | zero =>
      intro i r h
      unfold ByteArray.toList.loop
      rw [if_neg (by omega)]
      have : s.data.toList.length ≤ i := by rw [data_len]; omega
      simp [List.drop_eq_nil_of_le this]
    | succ n ih =>
      intro i r h
      unfold ByteArray.toList.loop
      rw [if_pos (by omega), ih (i + 1) _ (by omega)]
      have hi : i < s.data.toList.length := by rw [data_len]; omega
      rw [List.drop_eq_getElem_cons hi]
      have : s.get! i = s.data.toList[i] := by
        have hi' : i < s.data.size := by simpa using hi
        rw [ByteArray.get!, Array.getElem!_eq_getD]
        simp only [Array.getD, hi', dite_true]
        rfl
      simp [this]
  simpa [ByteArray.toList] using h s.size 0 [] (by omega)
theorem text_ext {a b : ByteArray} (h : a.data.toList = b.data.toList) : a = b := by
  obtain ⟨⟨a⟩⟩ := a; obtain ⟨⟨b⟩⟩ := b; simpa using h
theorem text_eq (a b : ByteArray) : (a.toList == b.toList) = decide (a = b) := by
  rw [toList_data, toList_data]
  by_cases h : a = b
  · subst h; simp
  · have : ¬ a.data.toList = b.data.toList := fun e => h (text_ext e)
    rw [decide_eq_false h]; exact beq_eq_false_iff_ne.mpr this
theorem text_eq' (a b : ByteArray) : (a.toList = b.toList) = (a = b) := by
  rw [toList_data, toList_data]
  exact propext ⟨text_ext, fun h => by rw [h]⟩
/-! ### loops over lists -/
theorem drop_cons {α : Type} {l : List α} {k : Nat} {x : α} {t : List α} (h : l.drop k = x :: t) (z : α) : k < l.length ∧ l.getD k z = x ∧ l.drop (k + 1) = t := by
  have hk : k < l.length := by
    rcases Nat.lt_or_ge k l.length with h' | h'
    · exact h'
    · rw [List.drop_eq_nil_of_le h'] at h; cases h
  rw [List.drop_eq_getElem_cons hk] at h
  obtain ⟨h1, h2⟩ := List.cons.inj h
  exact ⟨hk, by simp [List.getD, hk, h1], h2⟩
/-- a loop that goes along a list -/
theorem along {α S T : Type} (l : List α) (L : Nat → Nat → S → T) (G : List α → S → T) (hnil : ∀ j s, L (j + 1) l.length s = G [] s)
    (hcons : ∀ j k x t s, l.drop k = x :: t → k < l.length → (∀ s, L j (k + 1) s = G t s) → L (j + 1) k s = G (x :: t) s) :
    ∀ (t : List α) (j k : Nat) (s : S), l.drop k = t → k ≤ l.length → t.length < j → L j k s = G t s
  | [], j + 1, k, s, hd, hk, _ => by
    have : k = l.length := by
      rcases Nat.lt_or_ge k l.length with h' | h'
      · rw [List.drop_eq_getElem_cons h'] at hd; cases hd
      · omega
    subst this; exact hnil j s
  | x :: t, j + 1, k, s, hd, hk, hj => by
    have h := drop_cons hd x
    exact hcons j k x t s hd h.1 fun s => along l L G hnil hcons t j (k + 1) s h.2.2 (by omega) (by simp at hj; omega)
theorem along0 {α S T : Type} (l : List α) (L : Nat → Nat → S → T) (G : List α → S → T) {j : Nat} (hj : l.length < j) (s : S) (hnil : ∀ j s, L (j + 1) l.length s = G [] s)
    (hcons : ∀ j k x t s, l.drop k = x :: t → k < l.length → (∀ s, L j (k + 1) s = G t s) → L (j + 1) k s = G (x :: t) s) : L j 0 s = G l s :=
  along l L G hnil hcons l j 0 s rfl (by omega) hj
theorem set_take {α : Type} {s : List α} {k : Nat} {x : α} (h : k < s.length) (t : List α) : (s.set k x).take (k + 1) ++ t = s.take k ++ x :: t := by
  induction s generalizing k with
  | nil => simp at h
  | cons a s ih =>
    cases k with
    | zero => simp
    | succ k => simp at h; simp [ih h]
/-- a list is written anew, place by place -/
theorem copy_loop {α β : Type} (l : List α) (f : α → β) (L : Nat → Nat → List β → Option (List β)) (hexit : ∀ j s, L (j + 1) l.length s = some s)
    (hstep : ∀ j k s (h : k < l.length), s.length = l.length → L (j + 1) k s = L j (k + 1) (s.set k (f l[k]))) : ∀ (t : List α) (j k : Nat) (s : List β), l.drop k = t → k ≤ l.length → t.length < j → s.length = l.length → L j k s = some (s.take k ++ t.map f)
  | [], j + 1, k, s, hd, hk, _, hs => by
    have : k = l.length := by
      rcases Nat.lt_or_ge k l.length with h' | h'
      · rw [List.drop_eq_getElem_cons h'] at hd; cases hd
      · omega
    subst this
    rw [hexit, List.take_of_length_le (by omega)]; simp
  | x :: t, j + 1, k, s, hd, hk, hj, hs => by
    obtain ⟨h1, h2, h3⟩ := drop_cons hd x
    rw [hstep j k s h1 hs, copy_loop l f L hexit hstep t j (k + 1) _ h3 (by omega) (by simp at hj; omega) (by simpa using hs)]
    have hx : l[k] = x := by simpa [List.getD, h1] using h2
    rw [set_take (by omega), hx]; rfl
theorem copy_loop0 {α β : Type} (l : List α) (f : α → β) (L : Nat → Nat → List β → Option (List β)) {j : Nat} {s : List β} (hj : l.length < j) (hs : s.length = l.length) (hexit : ∀ j s, L (j + 1) l.length s = some s)
    (hstep : ∀ j k s (h : k < l.length), s.length = l.length → L (j + 1) k s = L j (k + 1) (s.set k (f l[k]))) : L j 0 s = some (l.map f) := by
  rw [copy_loop l f L hexit hstep l j 0 s rfl (by omega) hj hs]; simp
theorem bt_at {s : ByteArray} {k : Nat} (h : k < s.size) : bt s (k : Int) = ((s.data.toList[k]'(by rw [data_len]; exact h)).toNat : Int) := by
  simp only [bt, Int.toNat_natCast, h, dite_true]; rfl
theorem bt_drop {s : ByteArray} {k : Nat} {x : UInt8} {t : List UInt8} (h : s.data.toList.drop k = x :: t) : k < s.size ∧ bt s (k : Int) = (x.toNat : Int) := by
  obtain ⟨h1, h2, _⟩ := drop_cons h x
  have h3 : k < s.size := by rw [← data_len]; exact h1
  refine ⟨h3, ?_⟩
  rw [bt_at h3]
  rw [getD_at h1] at h2; rw [h2]
/-- a loop along a text -/
theorem alongT {S T : Type} (s : ByteArray) (L : Nat → Nat → S → T) (G : List UInt8 → S → T) (hnil : ∀ j st, L (j + 1) s.size st = G [] st)
    (hcons : ∀ j k x t st, s.data.toList.drop k = x :: t → k < s.size → bt s (k : Int) = (x.toNat : Int) → (∀ st, L j (k + 1) st = G t st) → L (j + 1) k st = G (x :: t) st) {j : Nat} (hj : s.size < j) (st : S) : L j 0 st = G s.data.toList st := by
  refine along0 s.data.toList L G (by rw [data_len]; exact hj) st (fun j st => by rw [data_len]; exact hnil j st) fun j k x t st hd hk ih => ?_
  obtain ⟨h1, h2⟩ := bt_drop hd
  exact hcons j k x t st hd h1 h2 ih
/-! ### sizes -/
def szR (c : Nat) (l : Int) : Int := if l < c then -1 else l - c
def big : Int := 1152921504606846976
theorem sz_str {r : Int → Option Int} {l : Int} {m c : Nat} (h0 : 0 ≤ l) (h1 : l ≤ big) (hm : (m : Int) ≤ big) (h : ∀ l', 0 ≤ l' → l' ≤ big → r l' = some (szR c l')) :
    (let v : Int := IntKind.wrap .i64 (l - (m : Int)); bif decide (v < (0 : Int)) then some (-1 : Int) else r v) = some (szR (m + c) l) := by
  simp only [big] at *
  rw [wrap64 (by omega) (by omega)]
  by_cases hl : l - (m : Int) < 0
  · rw [decide_eq_true hl, cond_true, szR, if_pos (by omega)]
  · rw [decide_eq_false hl, cond_false, h _ (by omega) (by omega)]
    simp only [szR]
    congr 1
    split <;> split <;> omega
theorem sz_call {r : Int → Option Int} {f : Option Int} {l : Int} {m c : Nat} (h0 : 0 ≤ l) (h1 : l ≤ big) (hf : f = some (szR m l)) (h : ∀ l', 0 ≤ l' → l' ≤ big → r l' = some (szR c l')) :
    (f.bind fun v => bif decide (v < (0 : Int)) then some (-1 : Int) else r v) = some (szR (m + c) l) := by
  rw [hf, Option.bind_some]
  by_cases hl : l < m
  · have : szR m l = -1 := if_pos hl
    rw [this, decide_eq_true (by omega), cond_true, szR, if_pos (by omega)]
  · have : szR m l = l - m := if_neg hl
    rw [this, decide_eq_false (by omega), cond_false, h _ (by omega) (by omega)]
    simp only [szR]
    congr 1
    split <;> split <;> omega
theorem sz_end {l : Int} (h0 : 0 ≤ l) : some l = some (szR 0 l) := by simp only [szR]; rw [if_neg (by omega)]; simp
theorem sz_loop {α : Type} (l : List α) (c : α → Nat) (L : Nat → Nat → Int → Option Int) (hexit : ∀ j s, L (j + 1) l.length s = some s)
    (hstep : ∀ j k s (h : k < l.length), 0 ≤ s → s ≤ big → L (j + 1) k s = if s < (c l[k] : Int) then some (-1) else L j (k + 1) (s - (c l[k] : Int))) :
    ∀ (t : List α) (j k : Nat) (s : Int), l.drop k = t → k ≤ l.length → t.length < j → 0 ≤ s → s ≤ big → L j k s = some (szR (t.map c).sum s)
  | [], j + 1, k, s, hd, hk, _, h0, h1 => by
    have : k = l.length := by
      rcases Nat.lt_or_ge k l.length with h' | h'
      · rw [List.drop_eq_getElem_cons h'] at hd; cases hd
      · omega
    subst this
    rw [hexit]; exact sz_end h0
  | x :: t, j + 1, k, s, hd, hk, hj, h0, h1 => by
    obtain ⟨h2, h3, h4⟩ := drop_cons hd x
    have hx : l[k] = x := by simpa [List.getD, h2] using h3
    rw [hstep j k s h2 h0 h1, hx]
    simp only [List.map_cons, List.sum_cons]
    split
    · rw [szR, if_pos (by omega)]
    · rw [sz_loop l c L hexit hstep t j (k + 1) _ h4 (by omega) (by simp at hj; omega) (by omega) (by omega)]
      simp only [szR]
      congr 1
      split <;> split <;> omega
theorem le_sum {α : Type} {f : α → Nat} : ∀ {l : List α} {x : α}, x ∈ l → f x ≤ (l.map f).sum
  | a :: l, x, h => by
    simp only [List.map_cons, List.sum_cons]
    rcases List.mem_cons.mp h with rfl | h
    · omega
    · have := le_sum (f := f) h; omega
theorem szR_step {c : Nat} {s : Int} (R : Int → Option Int) (b : Option Int) (h0 : 0 ≤ s) : (bif decide (szR c s < 0) then b else R (szR c s)) = if s < (c : Int) then b else R (s - (c : Int)) := by
  by_cases h : s < (c : Int)
  · have : szR c s = -1 := if_pos h
    rw [this, if_pos h]; rfl
  · have : szR c s = s - c := if_neg h
    rw [this, if_neg h, decide_eq_false (by omega)]; rfl
theorem eq_step {α : Type} [DecidableEq α] (x y : α) (R : Option Bool) : (bif !decide (x = y) then some false else R) = if x = y then R else some false := by
  by_cases h : x = y <;> simp [h]
theorem eq_step2 (x y : Int) (R : Option Bool) : (bif x != y then some false else R) = if x = y then R else some false := by
  by_cases h : x = y
  · subst h; simp
  · rw [if_neg h, show (x != y) = true by simpa using h]; rfl
theorem eq_step3 (x y : Bool) (R : Option Bool) : (bif !(x == y) then some false else R) = if x = y then R else some false := by
  cases x <;> cases y <;> rfl
theorem eq_last {p : Prop} [Decidable p] : (if p then some true else some false) = some (decide p) := by by_cases h : p <;> simp [h]
theorem eq_and {p q : Prop} [Decidable p] [Decidable q] : (if p then some (decide q) else some false) = some (decide (p ∧ q)) := by by_cases h : p <;> simp [h]
theorem str_step {c : Nat} {s : Int} (a b : Option Int) : (bif decide (s - (c : Int) < 0) then a else b) = if s < (c : Int) then a else b := by
  by_cases h : s < (c : Int)
  · rw [if_pos h, decide_eq_true (by omega)]; rfl
  · rw [if_neg h, decide_eq_false (by omega)]; rfl
theorem eq_end : ∀ b : Bool, (bif !b then some false else some true) = some b := by intro b; cases b <;> rfl
theorem bif_ite {α : Type} {p : Prop} [Decidable p] {q : Prop} [Decidable q] (h : p ↔ q) (a b : α) : (bif decide p then a else b) = if q then a else b := by
  by_cases hp : p <;> simp [hp, h.mp, ← h]
/-! ### lists compared -/
theorem eq_loop {α : Type} [DecidableEq α] (l m : List α) (hlm : l.length = m.length) (L : Nat → Nat → Option Bool) (hexit : ∀ j, L (j + 1) l.length = some true)
    (hstep : ∀ j k (h : k < l.length) (h' : k < m.length), L (j + 1) k = if l[k] = m[k] then L j (k + 1) else some false) :
    ∀ (t : List α) (j k : Nat), l.drop k = t → k ≤ l.length → t.length < j → L j k = some (decide (t = m.drop k))
  | [], j + 1, k, hd, hk, _ => by
    have : k = l.length := by
      rcases Nat.lt_or_ge k l.length with h' | h'
      · rw [List.drop_eq_getElem_cons h'] at hd; cases hd
      · omega
    subst this
    rw [hexit, List.drop_eq_nil_of_le (by omega)]; simp
  | x :: t, j + 1, k, hd, hk, hj => by
    obtain ⟨h2, h3, h4⟩ := drop_cons hd x
    have hx : l[k] = x := by simpa [List.getD, h2] using h3
    rw [hstep j k h2 (by omega), hx, List.drop_eq_getElem_cons (show k < m.length by omega)]
    split
    · rename_i e
      rw [eq_loop l m hlm L hexit hstep t j (k + 1) h4 (by omega) (by simp at hj; omega)]
      congr 1; exact decide_eq_decide.mpr ⟨fun h => by rw [e, h], fun h => (List.cons.inj h).2⟩
    · rename_i e
      congr 1; exact (decide_eq_false fun h => e (List.cons.inj h).1).symm
/-! ### searches -/
def idxFrom {α : Type} (p : α → Bool) : List α → Nat → Int
  | [], _ => -1
  | x :: t, k => if p x = true then (k : Int) else idxFrom p t (k + 1)
def idx {α : Type} (p : α → Bool) (l : List α) : Int := idxFrom p l 0
theorem find_loop {α : Type} (p : α → Bool) (l : List α) (L : Nat → Nat → Option Int) (hexit : ∀ j, L (j + 1) l.length = some (-1))
    (hstep : ∀ j k (h : k < l.length), L (j + 1) k = if p l[k] = true then some (k : Int) else L j (k + 1)) :
    ∀ (t : List α) (j k : Nat), l.drop k = t → k ≤ l.length → t.length < j → L j k = some (idxFrom p t k)
  | [], j + 1, k, hd, hk, _ => by
    have : k = l.length := by
      rcases Nat.lt_or_ge k l.length with h' | h'
      · rw [List.drop_eq_getElem_cons h'] at hd; cases hd
      · omega
    subst this; rw [hexit]; rfl
  | x :: t, j + 1, k, hd, hk, hj => by
    obtain ⟨h2, h3, h4⟩ := drop_cons hd x
    have hx : l[k] = x := by simpa [List.getD, h2] using h3
    rw [hstep j k h2, hx, find_loop p l L hexit hstep t j (k + 1) h4 (by omega) (by simp at hj; omega)]
    simp only [idxFrom]; split <;> rfl
theorem all_loop {α : Type} (p : α → Bool) (l : List α) (L : Nat → Nat → Option Bool) (r : Option Bool) (hexit : ∀ j, L (j + 1) l.length = r)
    (hstep : ∀ j k (h : k < l.length), L (j + 1) k = if p l[k] = true then L j (k + 1) else some false) :
    ∀ (t : List α) (j k : Nat), l.drop k = t → k ≤ l.length → t.length < j → L j k = if t.all p = true then r else some false
  | [], j + 1, k, hd, hk, _ => by
    have : k = l.length := by
      rcases Nat.lt_or_ge k l.length with h' | h'
      · rw [List.drop_eq_getElem_cons h'] at hd; cases hd
      · omega
    subst this; rw [hexit]; rfl
  | x :: t, j + 1, k, hd, hk, hj => by
    obtain ⟨h2, h3, h4⟩ := drop_cons hd x
    have hx : l[k] = x := by simpa [List.getD, h2] using h3
    rw [hstep j k h2, hx, all_loop p l L r hexit hstep t j (k + 1) h4 (by omega) (by simp at hj; omega)]
    by_cases hp : p x = true <;> simp [hp]
theorem bif_step {b : Bool} {α : Type} (x y : α) : (bif !b then y else x) = if b = true then x else y := by cases b <;> rfl
theorem bif_step' {b : Bool} {α : Type} (x y : α) : (bif b then x else y) = if b = true then x else y := by cases b <;> rfl
theorem idx_bound {α : Type} (p : α → Bool) : ∀ (l : List α) (k : Nat), idxFrom p l k = -1 ∨ ((k : Int) ≤ idxFrom p l k ∧ idxFrom p l k < (k + l.length : Nat))
  | [], k => .inl rfl
  | x :: t, k => by
    simp only [idxFrom]
    split
    · right; simp only [List.length_cons]; omega
    · rcases idx_bound p t (k + 1) with h | h
      · exact .inl h
      · right; simp only [List.length_cons]; omega
theorem idx_lt {α : Type} (p : α → Bool) (l : List α) : -1 ≤ idx p l ∧ idx p l < (l.length : Int) := by
  rcases idx_bound p l 0 with h | h
  · unfold idx; rw [h]; omega
  · unfold idx; omega
def allFrom {α : Type} (p : α → Nat → Bool) : List α → Nat → Bool
  | [], _ => true
  | x :: t, k => p x k && allFrom p t (k + 1)
theorem allFrom_loop {α : Type} (p : α → Nat → Bool) (l : List α) (L : Nat → Nat → Option Bool) (r : Option Bool) (hexit : ∀ j, L (j + 1) l.length = r)
    (hstep : ∀ j k (h : k < l.length), L (j + 1) k = if p l[k] k = true then L j (k + 1) else some false) :
    ∀ (t : List α) (j k : Nat), l.drop k = t → k ≤ l.length → t.length < j → L j k = if allFrom p t k = true then r else some false
  | [], j + 1, k, hd, hk, _ => by
    have : k = l.length := by
      rcases Nat.lt_or_ge k l.length with h' | h'
      · rw [List.drop_eq_getElem_cons h'] at hd; cases hd
      · omega
    subst this; rw [hexit]; rfl
  | x :: t, j + 1, k, hd, hk, hj => by
    obtain ⟨h2, h3, h4⟩ := drop_cons hd x
    have hx : l[k] = x := by simpa [List.getD, h2] using h3
    rw [hstep j k h2, hx, allFrom_loop p l L r hexit hstep t j (k + 1) h4 (by omega) (by simp at hj; omega)]
    by_cases hp : p x k = true <;> simp [hp, allFrom]
def runs {α S : Type} (f : α → S → Option S) : List α → S → Option S
  | [], s => some s
  | x :: t, s => (f x s).bind (runs f t)
def after {S T : Type} (o : Option S) (X : T) (R : S → T) : T := match o with
  | some s => R s
  | none => X
theorem run_loop {α S T : Type} (l : List α) (f : α → S → Option S) (L : Nat → Nat → S → T) (R : S → T) (X : T) (Inv : S → Prop) (hinv : ∀ x ∈ l, ∀ s s', Inv s → f x s = some s' → Inv s')
    (hexit : ∀ j s, Inv s → L (j + 1) l.length s = R s) (hstep : ∀ j k s (h : k < l.length), Inv s → L (j + 1) k s = after (f l[k] s) X fun s' => L j (k + 1) s') :
    ∀ (t : List α) (j k : Nat) (s : S), l.drop k = t → k ≤ l.length → t.length < j → Inv s → L j k s = after (runs f t s) X R
  | [], j + 1, k, s, hd, hk, _, hs => by
    have : k = l.length := by
      rcases Nat.lt_or_ge k l.length with h' | h'
      · rw [List.drop_eq_getElem_cons h'] at hd; cases hd
      · omega
    subst this; rw [hexit _ _ hs]; rfl
  | x :: t, j + 1, k, s, hd, hk, hj, hs => by
    obtain ⟨h2, h3, h4⟩ := drop_cons hd x
    have hx : l[k] = x := by simpa [List.getD, h2] using h3
    rw [hstep j k s h2 hs, hx]
    simp only [runs]
    cases hf : f x s with
    | none => rfl
    | some s' => exact run_loop l f L R X Inv hinv hexit hstep t j (k + 1) s' h4 (by omega) (by simp at hj; omega) (hinv x (by rw [← hx]; exact List.getElem_mem h2) s s' hs hf)
theorem allFrom_loopQ {α : Type} (p : α → Nat → Bool) (Q : Nat → Prop) (l : List α) (L : Nat → Nat → Option Bool) (r : Option Bool) (hexit : ∀ j, L (j + 1) l.length = r)
    (hQ : ∀ k (h : k < l.length), Q k → p l[k] k = true → Q (k + 1)) (hstep : ∀ j k (h : k < l.length), Q k → L (j + 1) k = if p l[k] k = true then L j (k + 1) else some false) :
    ∀ (t : List α) (j k : Nat), l.drop k = t → k ≤ l.length → t.length < j → Q k → L j k = if allFrom p t k = true then r else some false
  | [], j + 1, k, hd, hk, _, _ => by
    have : k = l.length := by
      rcases Nat.lt_or_ge k l.length with h' | h'
      · rw [List.drop_eq_getElem_cons h'] at hd; cases hd
      · omega
    subst this; rw [hexit]; rfl
  | x :: t, j + 1, k, hd, hk, hj, hq => by
    obtain ⟨h2, h3, h4⟩ := drop_cons hd x
    have hx : l[k] = x := by simpa [List.getD, h2] using h3
    rw [hstep j k h2 hq, hx]
    by_cases hp : p x k = true
    · rw [allFrom_loopQ p Q l L r hexit hQ hstep t j (k + 1) h4 (by omega) (by simp at hj; omega) (hQ k h2 hq (by rw [hx]; exact hp))]
      simp [hp, allFrom]
    · simp [hp, allFrom]
theorem allFrom_iff {α : Type} (p : α → Nat → Bool) : ∀ (l : List α) (k : Nat), allFrom p l k = true ↔ ∀ i (h : i < l.length), p l[i] (k + i) = true
  | [], k => by simp [allFrom]
  | x :: t, k => by
    simp only [allFrom, Bool.and_eq_true, allFrom_iff p t (k + 1)]
    constructor
    · rintro ⟨h1, h2⟩ i hi
      cases i with
      | zero => exact h1
      | succ i => have := h2 i (by simp at hi; omega); rwa [show k + 1 + i = k + (i + 1) by omega] at this
    · intro h
      refine ⟨h 0 (by simp), fun i hi => ?_⟩
      have := h (i + 1) (by simp; omega)
      rwa [show k + (i + 1) = k + 1 + i by omega] at this
theorem map_loop {α β : Type} (l : List α) (g : α → β) (L : Nat → Nat → List β → Option (List β)) (hexit : ∀ j s, L (j + 1) l.length s = some s)
    (hstep : ∀ j k s (h : k < l.length), s.length = k → L (j + 1) k s = L j (k + 1) (s ++ [g l[k]])) : ∀ (t : List α) (j k : Nat) (s : List β), l.drop k = t → k ≤ l.length → t.length < j → s.length = k → L j k s = some (s ++ t.map g)
  | [], j + 1, k, s, hd, hk, _, hs => by
    have : k = l.length := by
      rcases Nat.lt_or_ge k l.length with h' | h'
      · rw [List.drop_eq_getElem_cons h'] at hd; cases hd
      · omega
    subst this; rw [hexit]; simp
  | x :: t, j + 1, k, s, hd, hk, hj, hs => by
    obtain ⟨h2, h3, h4⟩ := drop_cons hd x
    have hx : l[k] = x := by simpa [List.getD, h2] using h3
    rw [hstep j k s h2 hs, hx, map_loop l g L hexit hstep t j (k + 1) _ h4 (by omega) (by simp at hj; omega) (by simp [hs])]
    simp
theorem le_big {l : Int} (h : l ≤ 1048576) : l ≤ big := by simp only [big]; omega
theorem law_sz {r : Int → Option Bool} {f : Option Int} {l : Int} {m : Nat} (hf : f = some (szR m l)) (h0 : 0 ≤ l) (h1 : l ≤ 1048576) (h : m ≤ 1048576 → ∀ l', 0 ≤ l' → l' ≤ 1048576 → r l' = some true) :
    (f.bind fun v => bif decide (v < (0 : Int)) then some true else r v) = some true := by
  rw [hf, Option.bind_some]
  by_cases hl : l < m
  · have : szR m l = -1 := if_pos hl
    rw [this]; rfl
  · have : szR m l = l - m := if_neg hl
    rw [this, decide_eq_false (by omega), cond_false]
    exact h (by omega) _ (by omega) (by omega)
theorem law_str {r : Option Bool} {m : Nat} (h : m ≤ 1048576 → r = some true) : (let v : Bool := decide ((1048576 : Int) < (m : Int)); bif v then some true else r) = some true := by
  by_cases hl : (1048576 : Int) < (m : Int)
  · simp [hl]
  · simp only [decide_eq_false hl, cond_false]; exact h (by omega)
/-! ### marks: what a law writes into a list, and finds there -/
def mkL {E : Type} (mk : Int → E → E) (mc : E → Nat) : Int → List E → List E
  | _, [] => []
  | k, x :: t => mk k x :: mkL mk mc (k + mc x) t
def mcL {E : Type} (mc : E → Nat) : List E → Nat
  | [] => 0
  | x :: t => mc x + mcL mc t
theorem mkL_len {E : Type} (mk : Int → E → E) (mc : E → Nat) : ∀ (l : List E) (k : Int), (mkL mk mc k l).length = l.length
  | [], k => rfl
  | x :: t, k => by simp [mkL, mkL_len mk mc t]
theorem mcL_le {E : Type} {mc : E → Nat} {b : Nat} : ∀ {l : List E}, (∀ x ∈ l, mc x ≤ b) → mcL mc l ≤ l.length * b
  | [], _ => by simp [mcL]
  | x :: t, h => by
    have h1 := h x (List.mem_cons_self ..)
    have h2 := mcL_le (l := t) fun y hy => h y (List.mem_cons_of_mem _ hy)
    simp only [mcL, List.length_cons, Nat.add_mul, Nat.one_mul]
    omega
theorem mcL_le' {E : Type} {mc : E → Nat} {b m c : Nat} {l : List E} (h : ∀ x ∈ l, mc x ≤ b) (hl : l.length ≤ m) (hc : m * b ≤ c) : mcL mc l ≤ c := Nat.le_trans (mcL_le h) (Nat.le_trans (Nat.mul_le_mul_right b hl) hc)
def markMax : Int := 9000000000000000000
theorem mark_loop {E : Type} (mk : Int → E → E) (mc : E → Nat) (P : E → Prop) (F : Nat → Int → Int → List E → Option (Int × (List E × Unit)))
    (hend : ∀ j k (l : List E), F (j + 1) k (l.length : Int) l = some (k, (l, ())))
    (hstep : ∀ j k i (l : List E) (hi : i < l.length), P l[i] → 0 ≤ k → k + mc l[i] ≤ markMax → l.length ≤ 1048577 → F (j + 1) k (i : Int) l = F j (k + mc l[i]) ((i + 1 : Nat) : Int) (l.set i (mk k l[i]))) :
    ∀ (t pre : List E) (j : Nat) (k : Int), t.length < j → (pre ++ t).length ≤ 1048577 → (∀ x ∈ t, P x) → 0 ≤ k → k + mcL mc t ≤ markMax → F j k (pre.length : Int) (pre ++ t) = some (k + mcL mc t, (pre ++ mkL mk mc k t, ()))
  | [], pre, j, k, hj, _, _, _, _ => by
    obtain ⟨j, rfl⟩ : ∃ i, j = i + 1 := ⟨j - 1, by simp at hj; omega⟩
    have := hend j k pre
    simpa [mkL, mcL] using this
  | x :: t, pre, j, k, hj, hl, hP, h0, h1 => by
    obtain ⟨j, rfl⟩ : ∃ i, j = i + 1 := ⟨j - 1, by simp at hj; omega⟩
    have hi : pre.length < (pre ++ x :: t).length := by simp
    have hx : (pre ++ x :: t)[pre.length] = x := by simp
    simp only [mcL] at h1
    have hs := hstep j k pre.length (pre ++ x :: t) hi (by rw [hx]; exact hP x (List.mem_cons_self ..)) h0 (by rw [hx]; omega) hl
    rw [hx] at hs
    have hset : (pre ++ x :: t).set pre.length (mk k x) = (pre ++ [mk k x]) ++ t := by simp
    rw [hs, hset]
    have ih := mark_loop mk mc P F hend hstep t (pre ++ [mk k x]) j (k + mc x) (by simpa using hj) (by simp at hl ⊢; omega) (fun y hy => hP y (List.mem_cons_of_mem _ hy)) (by omega) (by omega)
    rw [show (pre ++ [mk k x]).length = pre.length + 1 by simp] at ih
    rw [ih]
    simp only [mkL, mcL, List.append_assoc, List.singleton_append]
    congr 2
    omega
theorem held_loop {E : Type} (mk : Int → E → E) (mc : E → Nat) (P : E → Prop) (L : List E) (H : Nat → Int → Int → Option Int) (hL : L.length ≤ 1048577)
    (hend : ∀ j k, H (j + 1) k (L.length : Int) = some k)
    (hstep : ∀ j k i x (hi : i < L.length), P x → L[i] = mk k x → 0 ≤ k → k + mc x ≤ markMax → H (j + 1) k (i : Int) = H j (k + mc x) ((i + 1 : Nat) : Int)) :
    ∀ (t pre : List E) (j : Nat) (k : Int), L = pre ++ mkL mk mc k t → t.length < j → (∀ x ∈ t, P x) → 0 ≤ k → k + mcL mc t ≤ markMax → H j k (pre.length : Int) = some (k + mcL mc t)
  | [], pre, j, k, hp, hj, _, _, _ => by
    obtain ⟨j, rfl⟩ : ∃ i, j = i + 1 := ⟨j - 1, by simp at hj; omega⟩
    simp only [mkL, List.append_nil] at hp
    have := hend j k
    rw [hp] at this
    simpa [mcL] using this
  | x :: t, pre, j, k, hp, hj, hP, h0, h1 => by
    obtain ⟨j, rfl⟩ : ∃ i, j = i + 1 := ⟨j - 1, by simp at hj; omega⟩
    simp only [mkL] at hp
    simp only [mcL] at h1
    have hi : pre.length < L.length := by rw [hp]; simp
    have hx : L[pre.length] = mk k x := by simp [hp]
    have hs := hstep j k pre.length x hi (hP x (List.mem_cons_self ..)) hx h0 (by omega)
    rw [hs]
    have ih := held_loop mk mc P L H hL hend hstep t (pre ++ [mk k x]) j (k + mc x) (by rw [hp]; simp) (by simpa using hj) (fun y hy => hP y (List.mem_cons_of_mem _ hy)) (by omega) (by omega)
    rw [show (pre ++ [mk k x]).length = pre.length + 1 by simp] at ih
    rw [ih]
    simp only [mcL]
    congr 1
    omega
theorem wrapk {x : Int} (h0 : 0 ≤ x) (h1 : x ≤ 9223372036854775807) : IntKind.wrap .i64 x = x := wrap64 (by omega) h1
theorem setAt {α : Type} {l : List α} {i : Nat} {x z : α} (h : i < l.length) : (l.set i x).getD i z = x := by simp [List.getD, h]
abbrev T_Val := Int × (Int × (ByteArray))
instance i_Val : DecidableEq T_Val := @instDecidableEqProd _ _ inferInstance (@instDecidableEqProd _ _ inferInstance (inferInstance))
def cost_Val (x : T_Val) : Nat := x.2.2.size + (0)
def sm_Val (k : Nat) (x : T_Val) : Prop := x.2.2.size ≤ k
theorem cost_sm_Val {k : Nat} {x : T_Val} (h : cost_Val x ≤ k) : sm_Val k x := by
  unfold cost_Val at h
  unfold sm_Val
  exact by omega
theorem toVal_ok : EV fun n => ∀ x : T_Val, sm_Val 1048576 x → laws_toVal n x.1 x.2.1 x.2.2 = some x := EV.true.up fun n h x hs => by
  unfold sm_Val at hs
  simp only [laws_toVal, Option.bind_some]
theorem szVal_ok : EV fun n => ∀ (x : T_Val) (l : Int), sm_Val 140737488355328 x → 0 ≤ l → l ≤ big → laws_szVal n x.1 x.2.1 x.2.2 l = some (szR (cost_Val x) l) := EV.true.up fun n h x l0 hs g0 g1 => by
  unfold sm_Val at hs
  rw [laws_szVal]
  unfold cost_Val
  exact sz_str (m := x.2.2.size) g0 g1 (by have := hs; simp only [big]; omega) fun l1 g2 g3 => sz_end g2
theorem eqVal_ok : EV fun n => ∀ (x y : T_Val), sm_Val 1048576 x → laws_eqVal n x.1 x.2.1 x.2.2 y.1 y.2.1 y.2.2 = some (decide (x = y)) := EV.true.up fun n h x y hs => by
  unfold sm_Val at hs
  simp only [laws_eqVal, Option.bind_some, text_eq]
  obtain ⟨x0 , x1 , x2⟩ := x
  obtain ⟨y0 , y1 , y2⟩ := y
  simp only [eq_step, eq_step2, eq_step3, eq_last, eq_and]
  exact congrArg some (decide_eq_decide.mpr (by simp only [Prod.mk.injEq]))
abbrev T_ValS := List T_Val
def cost_ValS (x : T_ValS) : Nat := x.length + (x.map (cost_Val)).sum
def sm_ValS (k : Nat) (l : T_ValS) : Prop := l.length ≤ k ∧ ∀ x ∈ l, sm_Val k x
theorem cost_sm_ValS {k : Nat} {l : T_ValS} (h : cost_ValS l ≤ k) : sm_ValS k l := by
  unfold cost_ValS at h
  unfold sm_ValS
  refine ⟨by omega, fun x hx => ?_⟩
  have := le_sum (f := cost_Val) hx
  exact cost_sm_Val (by omega)
theorem toValS_ok : EV fun n => ∀ l : T_ValS, sm_ValS 1048576 l → laws_toValS n l = some l := (toVal_ok.and (EV.gt 1048576)).up fun n h l hl => by
  have hlen := hl.1
  have hroom : (decide ((l.length : Int) = (l.length : Int) ∧ 0 ≤ (l.length : Int)) && room (l.length : Int).toNat 32) = true := by simp [room]; omega
  rw [laws_toValS, hroom]
  simp only [cond_true]
  refine (copy_loop0 (j := n) l id (fun j k s => laws_toValS_L1 n j l (k : Int) s) (by omega) (by simp) (fun j s => by simp only [laws_toValS_L1, lt_cast, Nat.lt_irrefl, decide_false, cond_false]) (fun j k s hk hs => ?_)).trans (by simp)
  have hks : k < s.length := by omega
  have e : laws_toVal n l[k].1 l[k].2.1 l[k].2.2 = some l[k] := h.1 (l[k]) (hl.2 _ (List.getElem_mem hk))
  simp only [laws_toValS_L1, lt_cast, decide_eq_true hk, inR_true hk, Int.toNat_natCast, getD_at hk, cond_true, wrap_succ hk (by omega), inR_true hks, Option.bind_some, id, e]
theorem szValS_ok : EV fun n => ∀ (l : T_ValS) (s : Int), sm_ValS 140737488355328 l → 0 ≤ s → s ≤ big → laws_szValS n l s = some (szR (cost_ValS l) s) := (szVal_ok.and (EV.gt 140737488355328)).up fun n h l s hl g0 g1 => by
  have hlen := hl.1
  rw [laws_szValS]
  unfold cost_ValS
  refine sz_str (r := fun s => laws_szValS_L1 n n l s (0 : Int)) (m := l.length) g0 g1 (by simp only [big]; omega) fun s g0 g1 => ?_
  refine sz_loop l _ (fun j k s => laws_szValS_L1 n j l s (k : Int)) (fun j s => by simp only [laws_szValS_L1, lt_cast, Nat.lt_irrefl, decide_false, cond_false]) (fun j k s hk h0 h1 => ?_) l n 0 s rfl (by omega) (by omega) g0 g1
  have e : laws_szVal n l[k].1 l[k].2.1 l[k].2.2 s = some (szR (cost_Val l[k]) s) := h.1 (l[k]) s (hl.2 _ (List.getElem_mem hk)) h0 h1
  simp only [laws_szValS_L1, lt_cast, decide_eq_true hk, inR_true hk, Int.toNat_natCast, getD_at hk, cond_true, wrap_succ hk (by omega), e, Option.bind_some]
  exact szR_step (fun s => laws_szValS_L1 n j l s ((k + 1 : Nat) : Int)) _ h0
theorem eqValS_ok : EV fun n => ∀ (l m : T_ValS), sm_ValS 1048576 l → laws_eqValS n l m = some (decide (l = m)) := (eqVal_ok.and (EV.gt 1048576)).up fun n h l m hl => by
  have hlen := hl.1
  rw [laws_eqValS]
  by_cases hlm : l.length = m.length
  · have : ((l.length : Int) != (m.length : Int)) = false := by simp [hlm]
    simp only [this, cond_false]
    refine (eq_loop l m hlm (fun j k => laws_eqValS_L1 n j l m (k : Int)) (fun j => by simp only [laws_eqValS_L1, lt_cast, Nat.lt_irrefl, decide_false, cond_false]) (fun j k hk hk2 => ?_) l n 0 rfl (by omega) (by omega)).trans (by simp)
    have e : laws_eqVal n l[k].1 l[k].2.1 l[k].2.2 m[k].1 m[k].2.1 m[k].2.2 = some (decide (l[k] = m[k])) := h.1 (l[k]) (m[k]) (hl.2 _ (List.getElem_mem hk))
    simp only [laws_eqValS_L1, lt_cast, decide_eq_true hk, inR_true hk, Int.toNat_natCast, getD_at hk, cond_true, wrap_succ hk (by omega), getD_at hk2, inR_true hk2, e, Option.bind_some]
    exact eq_step (l[k]) (m[k]) _
  · have : ((l.length : Int) != (m.length : Int)) = true := by simp; omega
    simp only [this, cond_true]
    congr 1; exact (decide_eq_false fun h => hlm (by rw [h])).symm
abbrev T_Col := ByteArray × (Int × (Bool × (Bool × (T_Val))))
instance i_Col : DecidableEq T_Col := @instDecidableEqProd _ _ inferInstance (@instDecidableEqProd _ _ inferInstance (@instDecidableEqProd _ _ inferInstance (@instDecidableEqProd _ _ inferInstance (inferInstance))))
def cost_Col (x : T_Col) : Nat := x.1.size + (cost_Val x.2.2.2.2 + (0))
def sm_Col (k : Nat) (x : T_Col) : Prop := x.1.size ≤ k ∧ sm_Val k x.2.2.2.2
theorem cost_sm_Col {k : Nat} {x : T_Col} (h : cost_Col x ≤ k) : sm_Col k x := by
  unfold cost_Col at h
  unfold sm_Col
  exact ⟨by omega, cost_sm_Val (by omega)⟩
theorem toCol_ok : EV fun n => ∀ x : T_Col, sm_Col 1048576 x → laws_toCol n x.1 x.2.1 x.2.2.1 x.2.2.2.1 x.2.2.2.2.1 x.2.2.2.2.2.1 x.2.2.2.2.2.2 = some x := (toVal_ok.and EV.true).up fun n h x hs => by
  unfold sm_Col at hs
  have e0 : laws_toVal n x.2.2.2.2.1 x.2.2.2.2.2.1 x.2.2.2.2.2.2 = some x.2.2.2.2 := h.1 x.2.2.2.2 (hs.2)
  simp only [laws_toCol, e0, Option.bind_some]
theorem szCol_ok : EV fun n => ∀ (x : T_Col) (l : Int), sm_Col 140737488355328 x → 0 ≤ l → l ≤ big → laws_szCol n x.1 x.2.1 x.2.2.1 x.2.2.2.1 x.2.2.2.2.1 x.2.2.2.2.2.1 x.2.2.2.2.2.2 l = some (szR (cost_Col x) l) := (szVal_ok.and EV.true).up fun n h x l0 hs g0 g1 => by
  unfold sm_Col at hs
  rw [laws_szCol]
  unfold cost_Col
  exact sz_str (m := x.1.size) g0 g1 (by have := hs.1; simp only [big]; omega) fun l1 g2 g3 => sz_call g2 g3 (h.1 x.2.2.2.2 l1 (hs.2) g2 g3) fun l2 g4 g5 => sz_end g4
theorem eqCol_ok : EV fun n => ∀ (x y : T_Col), sm_Col 1048576 x → laws_eqCol n x.1 x.2.1 x.2.2.1 x.2.2.2.1 x.2.2.2.2.1 x.2.2.2.2.2.1 x.2.2.2.2.2.2 y.1 y.2.1 y.2.2.1 y.2.2.2.1 y.2.2.2.2.1 y.2.2.2.2.2.1 y.2.2.2.2.2.2 = some (decide (x = y)) := (eqVal_ok.and EV.true).up fun n h x y hs => by
  unfold sm_Col at hs
  have e0 : laws_eqVal n x.2.2.2.2.1 x.2.2.2.2.2.1 x.2.2.2.2.2.2 y.2.2.2.2.1 y.2.2.2.2.2.1 y.2.2.2.2.2.2 = some (decide (x.2.2.2.2 = y.2.2.2.2)) := h.1 x.2.2.2.2 y.2.2.2.2 (hs.2)
  simp only [laws_eqCol, e0, Option.bind_some, text_eq]
  obtain ⟨x0 , x1 , x2 , x3 , x4⟩ := x
  obtain ⟨y0 , y1 , y2 , y3 , y4⟩ := y
  simp only [eq_step, eq_step2, eq_step3, eq_last, eq_and]
  exact congrArg some (decide_eq_decide.mpr (by simp only [Prod.mk.injEq]))
abbrev T_ColS := List T_Col
def cost_ColS (x : T_ColS) : Nat := x.length + (x.map (cost_Col)).sum
def sm_ColS (k : Nat) (l : T_ColS) : Prop := l.length ≤ k ∧ ∀ x ∈ l, sm_Col k x
theorem cost_sm_ColS {k : Nat} {l : T_ColS} (h : cost_ColS l ≤ k) : sm_ColS k l := by
  unfold cost_ColS at h
  unfold sm_ColS
  refine ⟨by omega, fun x hx => ?_⟩
  have := le_sum (f := cost_Col) hx
  exact cost_sm_Col (by omega)
theorem toColS_ok : EV fun n => ∀ l : T_ColS, sm_ColS 1048576 l → laws_toColS n l = some l := (toCol_ok.and (EV.gt 1048576)).up fun n h l hl => by
  have hlen := hl.1
  have hroom : (decide ((l.length : Int) = (l.length : Int) ∧ 0 ≤ (l.length : Int)) && room (l.length : Int).toNat 64) = true := by simp [room]; omega
  rw [laws_toColS, hroom]
  simp only [cond_true]
  refine (copy_loop0 (j := n) l id (fun j k s => laws_toColS_L1 n j l (k : Int) s) (by omega) (by simp) (fun j s => by simp only [laws_toColS_L1, lt_cast, Nat.lt_irrefl, decide_false, cond_false]) (fun j k s hk hs => ?_)).trans (by simp)
  have hks : k < s.length := by omega
  have e : laws_toCol n l[k].1 l[k].2.1 l[k].2.2.1 l[k].2.2.2.1 l[k].2.2.2.2.1 l[k].2.2.2.2.2.1 l[k].2.2.2.2.2.2 = some l[k] := h.1 (l[k]) (hl.2 _ (List.getElem_mem hk))
  simp only [laws_toColS_L1, lt_cast, decide_eq_true hk, inR_true hk, Int.toNat_natCast, getD_at hk, cond_true, wrap_succ hk (by omega), inR_true hks, Option.bind_some, id, e]
theorem szColS_ok : EV fun n => ∀ (l : T_ColS) (s : Int), sm_ColS 140737488355328 l → 0 ≤ s → s ≤ big → laws_szColS n l s = some (szR (cost_ColS l) s) := (szCol_ok.and (EV.gt 140737488355328)).up fun n h l s hl g0 g1 => by
  have hlen := hl.1
  rw [laws_szColS]
  unfold cost_ColS
  refine sz_str (r := fun s => laws_szColS_L1 n n l s (0 : Int)) (m := l.length) g0 g1 (by simp only [big]; omega) fun s g0 g1 => ?_
  refine sz_loop l _ (fun j k s => laws_szColS_L1 n j l s (k : Int)) (fun j s => by simp only [laws_szColS_L1, lt_cast, Nat.lt_irrefl, decide_false, cond_false]) (fun j k s hk h0 h1 => ?_) l n 0 s rfl (by omega) (by omega) g0 g1
  have e : laws_szCol n l[k].1 l[k].2.1 l[k].2.2.1 l[k].2.2.2.1 l[k].2.2.2.2.1 l[k].2.2.2.2.2.1 l[k].2.2.2.2.2.2 s = some (szR (cost_Col l[k]) s) := h.1 (l[k]) s (hl.2 _ (List.getElem_mem hk)) h0 h1
  simp only [laws_szColS_L1, lt_cast, decide_eq_true hk, inR_true hk, Int.toNat_natCast, getD_at hk, cond_true, wrap_succ hk (by omega), e, Option.bind_some]
  exact szR_step (fun s => laws_szColS_L1 n j l s ((k + 1 : Nat) : Int)) _ h0
theorem eqColS_ok : EV fun n => ∀ (l m : T_ColS), sm_ColS 1048576 l → laws_eqColS n l m = some (decide (l = m)) := (eqCol_ok.and (EV.gt 1048576)).up fun n h l m hl => by
  have hlen := hl.1
  rw [laws_eqColS]
  by_cases hlm : l.length = m.length
  · have : ((l.length : Int) != (m.length : Int)) = false := by simp [hlm]
    simp only [this, cond_false]
    refine (eq_loop l m hlm (fun j k => laws_eqColS_L1 n j l m (k : Int)) (fun j => by simp only [laws_eqColS_L1, lt_cast, Nat.lt_irrefl, decide_false, cond_false]) (fun j k hk hk2 => ?_) l n 0 rfl (by omega) (by omega)).trans (by simp)
    have e : laws_eqCol n l[k].1 l[k].2.1 l[k].2.2.1 l[k].2.2.2.1 l[k].2.2.2.2.1 l[k].2.2.2.2.2.1 l[k].2.2.2.2.2.2 m[k].1 m[k].2.1 m[k].2.2.1 m[k].2.2.2.1 m[k].2.2.2.2.1 m[k].2.2.2.2.2.1 m[k].2.2.2.2.2.2 = some (decide (l[k] = m[k])) := h.1 (l[k]) (m[k]) (hl.2 _ (List.getElem_mem hk))
    simp only [laws_eqColS_L1, lt_cast, decide_eq_true hk, inR_true hk, Int.toNat_natCast, getD_at hk, cond_true, wrap_succ hk (by omega), getD_at hk2, inR_true hk2, e, Option.bind_some]
    exact eq_step (l[k]) (m[k]) _
  · have : ((l.length : Int) != (m.length : Int)) = true := by simp; omega
    simp only [this, cond_true]
    congr 1; exact (decide_eq_false fun h => hlm (by rw [h])).symm
abbrev T_StringS := List ByteArray
def cost_StringS (x : T_StringS) : Nat := x.length + (x.map (fun (x : ByteArray) => x.size)).sum
def sm_StringS (k : Nat) (l : T_StringS) : Prop := l.length ≤ k ∧ ∀ x ∈ l, x.size ≤ k
theorem sm_up {l : T_StringS} (h : sm_StringS 1048576 l) : sm_StringS 1048577 l := ⟨Nat.le_trans h.1 (by decide), fun x hx => Nat.le_trans (h.2 x hx) (by decide)⟩
theorem cost_sm_StringS {k : Nat} {l : T_StringS} (h : cost_StringS l ≤ k) : sm_StringS k l := by
  unfold cost_StringS at h
  unfold sm_StringS
  refine ⟨by omega, fun x hx => ?_⟩
  have := le_sum (f := fun (x : ByteArray) => x.size) hx
  exact by omega
theorem toStringS_ok : EV fun n => ∀ l : T_StringS, sm_StringS 1048576 l → laws_toStringS n l = some l := (EV.gt 1048576).up fun n h l hl => by
  have hlen := hl.1
  have hroom : (decide ((l.length : Int) = (l.length : Int) ∧ 0 ≤ (l.length : Int)) && room (l.length : Int).toNat 16) = true := by simp [room]; omega
  rw [laws_toStringS, hroom]
  simp only [cond_true]
  refine (copy_loop0 (j := n) l id (fun j k s => laws_toStringS_L1 n j l (k : Int) s) (by omega) (by simp) (fun j s => by simp only [laws_toStringS_L1, lt_cast, Nat.lt_irrefl, decide_false, cond_false]) (fun j k s hk hs => ?_)).trans (by simp)
  have hks : k < s.length := by omega
  simp only [laws_toStringS_L1, lt_cast, decide_eq_true hk, inR_true hk, Int.toNat_natCast, getD_at hk, cond_true, wrap_succ hk (by omega), inR_true hks, Option.bind_some, id]
theorem szStringS_ok : EV fun n => ∀ (l : T_StringS) (s : Int), sm_StringS 140737488355328 l → 0 ≤ s → s ≤ big → laws_szStringS n l s = some (szR (cost_StringS l) s) := (EV.gt 140737488355328).up fun n h l s hl g0 g1 => by
  have hlen := hl.1
  rw [laws_szStringS]
  unfold cost_StringS
  refine sz_str (r := fun s => laws_szStringS_L1 n n l s (0 : Int)) (m := l.length) g0 g1 (by simp only [big]; omega) fun s g0 g1 => ?_
  refine sz_loop l _ (fun j k s => laws_szStringS_L1 n j l s (k : Int)) (fun j s => by simp only [laws_szStringS_L1, lt_cast, Nat.lt_irrefl, decide_false, cond_false]) (fun j k s hk h0 h1 => ?_) l n 0 s rfl (by omega) (by omega) g0 g1
  have hs := hl.2 _ (List.getElem_mem hk)
  simp only [big] at h0 h1
  simp only [laws_szStringS_L1, lt_cast, decide_eq_true hk, inR_true hk, Int.toNat_natCast, getD_at hk, cond_true, wrap_succ hk (by omega)]
  rw [wrap64 (by omega) (by omega)]
  exact str_step _ _
theorem eqStringS_okK : EV fun n => ∀ (l m : T_StringS), sm_StringS 1048577 l → laws_eqStringS n l m = some (decide (l = m)) := (EV.gt 1048577).up fun n h l m hl => by
  have hlen := hl.1
  rw [laws_eqStringS]
  by_cases hlm : l.length = m.length
  · have : ((l.length : Int) != (m.length : Int)) = false := by simp [hlm]
    simp only [this, cond_false]
    refine (eq_loop l m hlm (fun j k => laws_eqStringS_L1 n j l m (k : Int)) (fun j => by simp only [laws_eqStringS_L1, lt_cast, Nat.lt_irrefl, decide_false, cond_false]) (fun j k hk hk2 => ?_) l n 0 rfl (by omega) (by omega)).trans (by simp)
    simp only [laws_eqStringS_L1, lt_cast, decide_eq_true hk, inR_true hk, Int.toNat_natCast, getD_at hk, cond_true, wrap_succ hk (by omega), getD_at hk2, inR_true hk2, text_eq]
    exact eq_step (l[k]) (m[k]) _
  · have : ((l.length : Int) != (m.length : Int)) = true := by simp; omega
    simp only [this, cond_true]
    congr 1; exact (decide_eq_false fun h => hlm (by rw [h])).symm
theorem eqStringS_ok : EV fun n => ∀ (l m : T_StringS), sm_StringS 1048576 l → laws_eqStringS n l m = some (decide (l = m)) := eqStringS_okK.mono fun n h l m hs => h l m (sm_up hs)
abbrev T_Table := ByteArray × (T_ColS × (T_StringS))
instance i_Table : DecidableEq T_Table := @instDecidableEqProd _ _ inferInstance (@instDecidableEqProd _ _ inferInstance (inferInstance))
def cost_Table (x : T_Table) : Nat := x.1.size + (cost_ColS x.2.1 + (cost_StringS x.2.2 + (0)))
def sm_Table (k : Nat) (x : T_Table) : Prop := x.1.size ≤ k ∧ sm_ColS k x.2.1 ∧ sm_StringS k x.2.2
theorem cost_sm_Table {k : Nat} {x : T_Table} (h : cost_Table x ≤ k) : sm_Table k x := by
  unfold cost_Table at h
  unfold sm_Table
  exact ⟨by omega, cost_sm_ColS (by omega), cost_sm_StringS (by omega)⟩
abbrev T_TableS := List T_Table
def cost_TableS (x : T_TableS) : Nat := x.length + (x.map (cost_Table)).sum
def sm_TableS (k : Nat) (l : T_TableS) : Prop := l.length ≤ k ∧ ∀ x ∈ l, sm_Table k x
theorem cost_sm_TableS {k : Nat} {l : T_TableS} (h : cost_TableS l ≤ k) : sm_TableS k l := by
  unfold cost_TableS at h
  unfold sm_TableS
  refine ⟨by omega, fun x hx => ?_⟩
  have := le_sum (f := cost_Table) hx
  exact cost_sm_Table (by omega)
abbrev T_Cat := T_TableS
def cost_Cat (x : T_Cat) : Nat := cost_TableS x + (0)
def sm_Cat (k : Nat) (x : T_Cat) : Prop := sm_TableS k x
theorem cost_sm_Cat {k : Nat} {x : T_Cat} (h : cost_Cat x ≤ k) : sm_Cat k x := by
  unfold cost_Cat at h
  unfold sm_Cat
  exact cost_sm_TableS (by omega)
abbrev T_Row := T_ValS
def cost_Row (x : T_Row) : Nat := cost_ValS x + (0)
def sm_Row (k : Nat) (x : T_Row) : Prop := sm_ValS k x
theorem cost_sm_Row {k : Nat} {x : T_Row} (h : cost_Row x ≤ k) : sm_Row k x := by
  unfold cost_Row at h
  unfold sm_Row
  exact cost_sm_ValS (by omega)
theorem toRow_ok : EV fun n => ∀ x : T_Row, sm_Row 1048576 x → laws_toRow n x = some x := (toValS_ok.and EV.true).up fun n h x hs => by
  unfold sm_Row at hs
  have e0 : laws_toValS n x = some x := h.1 x (hs)
  simp only [laws_toRow, e0, Option.bind_some]
theorem szRow_ok : EV fun n => ∀ (x : T_Row) (l : Int), sm_Row 140737488355328 x → 0 ≤ l → l ≤ big → laws_szRow n x l = some (szR (cost_Row x) l) := (szValS_ok.and EV.true).up fun n h x l0 hs g0 g1 => by
  unfold sm_Row at hs
  rw [laws_szRow]
  unfold cost_Row
  exact sz_call g0 g1 (h.1 x l0 (hs) g0 g1) fun l1 g2 g3 => sz_end g2
theorem eqRow_ok : EV fun n => ∀ (x y : T_Row), sm_Row 1048576 x → laws_eqRow n x y = some (decide (x = y)) := (eqValS_ok.and EV.true).up fun n h x y hs => by
  unfold sm_Row at hs
  have e0 : laws_eqValS n x y = some (decide (x = y)) := h.1 x y (hs)
  simp only [laws_eqRow, e0, Option.bind_some, text_eq]
  exact eq_end _
abbrev T_RowS := List T_Row
def cost_RowS (x : T_RowS) : Nat := x.length + (x.map (cost_Row)).sum
def sm_RowS (k : Nat) (l : T_RowS) : Prop := l.length ≤ k ∧ ∀ x ∈ l, sm_Row k x
theorem cost_sm_RowS {k : Nat} {l : T_RowS} (h : cost_RowS l ≤ k) : sm_RowS k l := by
  unfold cost_RowS at h
  unfold sm_RowS
  refine ⟨by omega, fun x hx => ?_⟩
  have := le_sum (f := cost_Row) hx
  exact cost_sm_Row (by omega)
abbrev T_Rows := T_RowS
def cost_Rows (x : T_Rows) : Nat := cost_RowS x + (0)
def sm_Rows (k : Nat) (x : T_Rows) : Prop := sm_RowS k x
theorem cost_sm_Rows {k : Nat} {x : T_Rows} (h : cost_Rows x ≤ k) : sm_Rows k x := by
  unfold cost_Rows at h
  unfold sm_Rows
  exact cost_sm_RowS (by omega)
abbrev T_RowsS := List T_Rows
def cost_RowsS (x : T_RowsS) : Nat := x.length + (x.map (cost_Rows)).sum
def sm_RowsS (k : Nat) (l : T_RowsS) : Prop := l.length ≤ k ∧ ∀ x ∈ l, sm_Rows k x
theorem cost_sm_RowsS {k : Nat} {l : T_RowsS} (h : cost_RowsS l ≤ k) : sm_RowsS k l := by
  unfold cost_RowsS at h
  unfold sm_RowsS
  refine ⟨by omega, fun x hx => ?_⟩
  have := le_sum (f := cost_Rows) hx
  exact cost_sm_Rows (by omega)
abbrev T_Db := T_Cat × (T_RowsS)
instance i_Db : DecidableEq T_Db := @instDecidableEqProd _ _ inferInstance (inferInstance)
def cost_Db (x : T_Db) : Nat := cost_Cat x.1 + (cost_RowsS x.2 + (0))
def sm_Db (k : Nat) (x : T_Db) : Prop := sm_Cat k x.1 ∧ sm_RowsS k x.2
theorem cost_sm_Db {k : Nat} {x : T_Db} (h : cost_Db x ≤ k) : sm_Db k x := by
  unfold cost_Db at h
  unfold sm_Db
  exact ⟨cost_sm_Cat (by omega), cost_sm_RowsS (by omega)⟩
abbrev T_Ddl := Int × (ByteArray × (T_ColS × (T_StringS × (ByteArray × (ByteArray)))))
instance i_Ddl : DecidableEq T_Ddl := @instDecidableEqProd _ _ inferInstance (@instDecidableEqProd _ _ inferInstance (@instDecidableEqProd _ _ inferInstance (@instDecidableEqProd _ _ inferInstance (@instDecidableEqProd _ _ inferInstance (inferInstance)))))
def cost_Ddl (x : T_Ddl) : Nat := x.2.1.size + (cost_ColS x.2.2.1 + (cost_StringS x.2.2.2.1 + (x.2.2.2.2.1.size + (x.2.2.2.2.2.size + (0)))))
def sm_Ddl (k : Nat) (x : T_Ddl) : Prop := x.2.1.size ≤ k ∧ sm_ColS k x.2.2.1 ∧ sm_StringS k x.2.2.2.1 ∧ x.2.2.2.2.1.size ≤ k ∧ x.2.2.2.2.2.size ≤ k
theorem cost_sm_Ddl {k : Nat} {x : T_Ddl} (h : cost_Ddl x ≤ k) : sm_Ddl k x := by
  unfold cost_Ddl at h
  unfold sm_Ddl
  exact ⟨by omega, cost_sm_ColS (by omega), cost_sm_StringS (by omega), by omega, by omega⟩
theorem toDdl_ok : EV fun n => ∀ x : T_Ddl, sm_Ddl 1048576 x → laws_toDdl n x.1 x.2.1 x.2.2.1 x.2.2.2.1 x.2.2.2.2.1 x.2.2.2.2.2 = some x := (toColS_ok.and (toStringS_ok.and EV.true)).up fun n h x hs => by
  unfold sm_Ddl at hs
  have e0 : laws_toColS n x.2.2.1 = some x.2.2.1 := h.1 x.2.2.1 (hs.2.1)
  have e1 : laws_toStringS n x.2.2.2.1 = some x.2.2.2.1 := h.2.1 x.2.2.2.1 (hs.2.2.1)
  simp only [laws_toDdl, e0, e1, Option.bind_some]
theorem szDdl_ok : EV fun n => ∀ (x : T_Ddl) (l : Int), sm_Ddl 140737488355328 x → 0 ≤ l → l ≤ big → laws_szDdl n x.1 x.2.1 x.2.2.1 x.2.2.2.1 x.2.2.2.2.1 x.2.2.2.2.2 l = some (szR (cost_Ddl x) l) := (szColS_ok.and (szStringS_ok.and EV.true)).up fun n h x l0 hs g0 g1 => by
  unfold sm_Ddl at hs
  rw [laws_szDdl]
  unfold cost_Ddl
  exact sz_str (m := x.2.1.size) g0 g1 (by have := hs.1; simp only [big]; omega) fun l1 g2 g3 => sz_call g2 g3 (h.1 x.2.2.1 l1 (hs.2.1) g2 g3) fun l2 g4 g5 => sz_call g4 g5 (h.2.1 x.2.2.2.1 l2 (hs.2.2.1) g4 g5) fun l3 g6 g7 => sz_str (m := x.2.2.2.2.1.size) g6 g7 (by have := hs.2.2.2.1; simp only [big]; omega) fun l4 g8 g9 => sz_str (m := x.2.2.2.2.2.size) g8 g9 (by have := hs.2.2.2.2; simp only [big]; omega) fun l5 g10 g11 => sz_end g10
theorem eqDdl_ok : EV fun n => ∀ (x y : T_Ddl), sm_Ddl 1048576 x → laws_eqDdl n x.1 x.2.1 x.2.2.1 x.2.2.2.1 x.2.2.2.2.1 x.2.2.2.2.2 y.1 y.2.1 y.2.2.1 y.2.2.2.1 y.2.2.2.2.1 y.2.2.2.2.2 = some (decide (x = y)) := (eqColS_ok.and (eqStringS_ok.and EV.true)).up fun n h x y hs => by
  unfold sm_Ddl at hs
  have e0 : laws_eqColS n x.2.2.1 y.2.2.1 = some (decide (x.2.2.1 = y.2.2.1)) := h.1 x.2.2.1 y.2.2.1 (hs.2.1)
  have e1 : laws_eqStringS n x.2.2.2.1 y.2.2.2.1 = some (decide (x.2.2.2.1 = y.2.2.2.1)) := h.2.1 x.2.2.2.1 y.2.2.2.1 (hs.2.2.1)
  simp only [laws_eqDdl, e0, e1, Option.bind_some, text_eq]
  obtain ⟨x0 , x1 , x2 , x3 , x4 , x5⟩ := x
  obtain ⟨y0 , y1 , y2 , y3 , y4 , y5⟩ := y
  simp only [eq_step, eq_step2, eq_step3, eq_last, eq_and]
  exact congrArg some (decide_eq_decide.mpr (by simp only [Prod.mk.injEq]))
abbrev T_Stmt := Int × (ByteArray × (T_ValS × (T_Row × (T_Ddl))))
instance i_Stmt : DecidableEq T_Stmt := @instDecidableEqProd _ _ inferInstance (@instDecidableEqProd _ _ inferInstance (@instDecidableEqProd _ _ inferInstance (@instDecidableEqProd _ _ inferInstance (inferInstance))))
def cost_Stmt (x : T_Stmt) : Nat := x.2.1.size + (cost_ValS x.2.2.1 + (cost_Row x.2.2.2.1 + (cost_Ddl x.2.2.2.2 + (0))))
def sm_Stmt (k : Nat) (x : T_Stmt) : Prop := x.2.1.size ≤ k ∧ sm_ValS k x.2.2.1 ∧ sm_Row k x.2.2.2.1 ∧ sm_Ddl k x.2.2.2.2
theorem cost_sm_Stmt {k : Nat} {x : T_Stmt} (h : cost_Stmt x ≤ k) : sm_Stmt k x := by
  unfold cost_Stmt at h
  unfold sm_Stmt
  exact ⟨by omega, cost_sm_ValS (by omega), cost_sm_Row (by omega), cost_sm_Ddl (by omega)⟩
theorem toStmt_ok : EV fun n => ∀ x : T_Stmt, sm_Stmt 1048576 x → laws_toStmt n x.1 x.2.1 x.2.2.1 x.2.2.2.1 x.2.2.2.2.1 x.2.2.2.2.2.1 x.2.2.2.2.2.2.1 x.2.2.2.2.2.2.2.1 x.2.2.2.2.2.2.2.2.1 x.2.2.2.2.2.2.2.2.2 = some x := (toValS_ok.and (toRow_ok.and (toDdl_ok.and EV.true))).up fun n h x hs => by
  unfold sm_Stmt at hs
  have e0 : laws_toValS n x.2.2.1 = some x.2.2.1 := h.1 x.2.2.1 (hs.2.1)
  have e1 : laws_toRow n x.2.2.2.1 = some x.2.2.2.1 := h.2.1 x.2.2.2.1 (hs.2.2.1)
  have e2 : laws_toDdl n x.2.2.2.2.1 x.2.2.2.2.2.1 x.2.2.2.2.2.2.1 x.2.2.2.2.2.2.2.1 x.2.2.2.2.2.2.2.2.1 x.2.2.2.2.2.2.2.2.2 = some x.2.2.2.2 := h.2.2.1 x.2.2.2.2 (hs.2.2.2)
  simp only [laws_toStmt, e0, e1, e2, Option.bind_some]
theorem szStmt_ok : EV fun n => ∀ (x : T_Stmt) (l : Int), sm_Stmt 140737488355328 x → 0 ≤ l → l ≤ big → laws_szStmt n x.1 x.2.1 x.2.2.1 x.2.2.2.1 x.2.2.2.2.1 x.2.2.2.2.2.1 x.2.2.2.2.2.2.1 x.2.2.2.2.2.2.2.1 x.2.2.2.2.2.2.2.2.1 x.2.2.2.2.2.2.2.2.2 l = some (szR (cost_Stmt x) l) := (szValS_ok.and (szRow_ok.and (szDdl_ok.and EV.true))).up fun n h x l0 hs g0 g1 => by
  unfold sm_Stmt at hs
  rw [laws_szStmt]
  unfold cost_Stmt
  exact sz_str (m := x.2.1.size) g0 g1 (by have := hs.1; simp only [big]; omega) fun l1 g2 g3 => sz_call g2 g3 (h.1 x.2.2.1 l1 (hs.2.1) g2 g3) fun l2 g4 g5 => sz_call g4 g5 (h.2.1 x.2.2.2.1 l2 (hs.2.2.1) g4 g5) fun l3 g6 g7 => sz_call g6 g7 (h.2.2.1 x.2.2.2.2 l3 (hs.2.2.2) g6 g7) fun l4 g8 g9 => sz_end g8
theorem eqStmt_ok : EV fun n => ∀ (x y : T_Stmt), sm_Stmt 1048576 x → laws_eqStmt n x.1 x.2.1 x.2.2.1 x.2.2.2.1 x.2.2.2.2.1 x.2.2.2.2.2.1 x.2.2.2.2.2.2.1 x.2.2.2.2.2.2.2.1 x.2.2.2.2.2.2.2.2.1 x.2.2.2.2.2.2.2.2.2 y.1 y.2.1 y.2.2.1 y.2.2.2.1 y.2.2.2.2.1 y.2.2.2.2.2.1 y.2.2.2.2.2.2.1 y.2.2.2.2.2.2.2.1 y.2.2.2.2.2.2.2.2.1 y.2.2.2.2.2.2.2.2.2 = some (decide (x = y)) := (eqValS_ok.and (eqRow_ok.and (eqDdl_ok.and EV.true))).up fun n h x y hs => by
  unfold sm_Stmt at hs
  have e0 : laws_eqValS n x.2.2.1 y.2.2.1 = some (decide (x.2.2.1 = y.2.2.1)) := h.1 x.2.2.1 y.2.2.1 (hs.2.1)
  have e1 : laws_eqRow n x.2.2.2.1 y.2.2.2.1 = some (decide (x.2.2.2.1 = y.2.2.2.1)) := h.2.1 x.2.2.2.1 y.2.2.2.1 (hs.2.2.1)
  have e2 : laws_eqDdl n x.2.2.2.2.1 x.2.2.2.2.2.1 x.2.2.2.2.2.2.1 x.2.2.2.2.2.2.2.1 x.2.2.2.2.2.2.2.2.1 x.2.2.2.2.2.2.2.2.2 y.2.2.2.2.1 y.2.2.2.2.2.1 y.2.2.2.2.2.2.1 y.2.2.2.2.2.2.2.1 y.2.2.2.2.2.2.2.2.1 y.2.2.2.2.2.2.2.2.2 = some (decide (x.2.2.2.2 = y.2.2.2.2)) := h.2.2.1 x.2.2.2.2 y.2.2.2.2 (hs.2.2.2)
  simp only [laws_eqStmt, e0, e1, e2, Option.bind_some, text_eq]
  obtain ⟨x0 , x1 , x2 , x3 , x4⟩ := x
  obtain ⟨y0 , y1 , y2 , y3 , y4⟩ := y
  simp only [eq_step, eq_step2, eq_step3, eq_last, eq_and]
  exact congrArg some (decide_eq_decide.mpr (by simp only [Prod.mk.injEq]))
abbrev T_StmtS := List T_Stmt
def cost_StmtS (x : T_StmtS) : Nat := x.length + (x.map (cost_Stmt)).sum
def sm_StmtS (k : Nat) (l : T_StmtS) : Prop := l.length ≤ k ∧ ∀ x ∈ l, sm_Stmt k x
theorem cost_sm_StmtS {k : Nat} {l : T_StmtS} (h : cost_StmtS l ≤ k) : sm_StmtS k l := by
  unfold cost_StmtS at h
  unfold sm_StmtS
  refine ⟨by omega, fun x hx => ?_⟩
  have := le_sum (f := cost_Stmt) hx
  exact cost_sm_Stmt (by omega)
abbrev T_Rec := Int × (Int × (T_Stmt))
instance i_Rec : DecidableEq T_Rec := @instDecidableEqProd _ _ inferInstance (@instDecidableEqProd _ _ inferInstance (inferInstance))
def cost_Rec (x : T_Rec) : Nat := cost_Stmt x.2.2 + (0)
def sm_Rec (k : Nat) (x : T_Rec) : Prop := sm_Stmt k x.2.2
theorem cost_sm_Rec {k : Nat} {x : T_Rec} (h : cost_Rec x ≤ k) : sm_Rec k x := by
  unfold cost_Rec at h
  unfold sm_Rec
  exact cost_sm_Stmt (by omega)
theorem toRec_ok : EV fun n => ∀ x : T_Rec, sm_Rec 1048576 x → laws_toRec n x.1 x.2.1 x.2.2.1 x.2.2.2.1 x.2.2.2.2.1 x.2.2.2.2.2.1 x.2.2.2.2.2.2.1 x.2.2.2.2.2.2.2.1 x.2.2.2.2.2.2.2.2.1 x.2.2.2.2.2.2.2.2.2.1 x.2.2.2.2.2.2.2.2.2.2.1 x.2.2.2.2.2.2.2.2.2.2.2 = some x := (toStmt_ok.and EV.true).up fun n h x hs => by
  unfold sm_Rec at hs
  have e0 : laws_toStmt n x.2.2.1 x.2.2.2.1 x.2.2.2.2.1 x.2.2.2.2.2.1 x.2.2.2.2.2.2.1 x.2.2.2.2.2.2.2.1 x.2.2.2.2.2.2.2.2.1 x.2.2.2.2.2.2.2.2.2.1 x.2.2.2.2.2.2.2.2.2.2.1 x.2.2.2.2.2.2.2.2.2.2.2 = some x.2.2 := h.1 x.2.2 (hs)
  simp only [laws_toRec, e0, Option.bind_some]
theorem szRec_ok : EV fun n => ∀ (x : T_Rec) (l : Int), sm_Rec 140737488355328 x → 0 ≤ l → l ≤ big → laws_szRec n x.1 x.2.1 x.2.2.1 x.2.2.2.1 x.2.2.2.2.1 x.2.2.2.2.2.1 x.2.2.2.2.2.2.1 x.2.2.2.2.2.2.2.1 x.2.2.2.2.2.2.2.2.1 x.2.2.2.2.2.2.2.2.2.1 x.2.2.2.2.2.2.2.2.2.2.1 x.2.2.2.2.2.2.2.2.2.2.2 l = some (szR (cost_Rec x) l) := (szStmt_ok.and EV.true).up fun n h x l0 hs g0 g1 => by
  unfold sm_Rec at hs
  rw [laws_szRec]
  unfold cost_Rec
  exact sz_call g0 g1 (h.1 x.2.2 l0 (hs) g0 g1) fun l1 g2 g3 => sz_end g2
theorem eqRec_ok : EV fun n => ∀ (x y : T_Rec), sm_Rec 1048576 x → laws_eqRec n x.1 x.2.1 x.2.2.1 x.2.2.2.1 x.2.2.2.2.1 x.2.2.2.2.2.1 x.2.2.2.2.2.2.1 x.2.2.2.2.2.2.2.1 x.2.2.2.2.2.2.2.2.1 x.2.2.2.2.2.2.2.2.2.1 x.2.2.2.2.2.2.2.2.2.2.1 x.2.2.2.2.2.2.2.2.2.2.2 y.1 y.2.1 y.2.2.1 y.2.2.2.1 y.2.2.2.2.1 y.2.2.2.2.2.1 y.2.2.2.2.2.2.1 y.2.2.2.2.2.2.2.1 y.2.2.2.2.2.2.2.2.1 y.2.2.2.2.2.2.2.2.2.1 y.2.2.2.2.2.2.2.2.2.2.1 y.2.2.2.2.2.2.2.2.2.2.2 = some (decide (x = y)) := (eqStmt_ok.and EV.true).up fun n h x y hs => by
  unfold sm_Rec at hs
  have e0 : laws_eqStmt n x.2.2.1 x.2.2.2.1 x.2.2.2.2.1 x.2.2.2.2.2.1 x.2.2.2.2.2.2.1 x.2.2.2.2.2.2.2.1 x.2.2.2.2.2.2.2.2.1 x.2.2.2.2.2.2.2.2.2.1 x.2.2.2.2.2.2.2.2.2.2.1 x.2.2.2.2.2.2.2.2.2.2.2 y.2.2.1 y.2.2.2.1 y.2.2.2.2.1 y.2.2.2.2.2.1 y.2.2.2.2.2.2.1 y.2.2.2.2.2.2.2.1 y.2.2.2.2.2.2.2.2.1 y.2.2.2.2.2.2.2.2.2.1 y.2.2.2.2.2.2.2.2.2.2.1 y.2.2.2.2.2.2.2.2.2.2.2 = some (decide (x.2.2 = y.2.2)) := h.1 x.2.2 y.2.2 (hs)
  simp only [laws_eqRec, e0, Option.bind_some, text_eq]
  obtain ⟨x0 , x1 , x2⟩ := x
  obtain ⟨y0 , y1 , y2⟩ := y
  simp only [eq_step, eq_step2, eq_step3, eq_last, eq_and]
  exact congrArg some (decide_eq_decide.mpr (by simp only [Prod.mk.injEq]))
abbrev T_RecS := List T_Rec
def cost_RecS (x : T_RecS) : Nat := x.length + (x.map (cost_Rec)).sum
def sm_RecS (k : Nat) (l : T_RecS) : Prop := l.length ≤ k ∧ ∀ x ∈ l, sm_Rec k x
theorem cost_sm_RecS {k : Nat} {l : T_RecS} (h : cost_RecS l ≤ k) : sm_RecS k l := by
  unfold cost_RecS at h
  unfold sm_RecS
  refine ⟨by omega, fun x hx => ?_⟩
  have := le_sum (f := cost_Rec) hx
  exact cost_sm_Rec (by omega)
theorem toRecS_ok : EV fun n => ∀ l : T_RecS, sm_RecS 1048576 l → laws_toRecS n l = some l := (toRec_ok.and (EV.gt 1048576)).up fun n h l hl => by
  have hlen := hl.1
  have hroom : (decide ((l.length : Int) = (l.length : Int) ∧ 0 ≤ (l.length : Int)) && room (l.length : Int).toNat 192) = true := by simp [room]; omega
  rw [laws_toRecS, hroom]
  simp only [cond_true]
  refine (copy_loop0 (j := n) l id (fun j k s => laws_toRecS_L1 n j l (k : Int) s) (by omega) (by simp) (fun j s => by simp only [laws_toRecS_L1, lt_cast, Nat.lt_irrefl, decide_false, cond_false]) (fun j k s hk hs => ?_)).trans (by simp)
  have hks : k < s.length := by omega
  have e : laws_toRec n l[k].1 l[k].2.1 l[k].2.2.1 l[k].2.2.2.1 l[k].2.2.2.2.1 l[k].2.2.2.2.2.1 l[k].2.2.2.2.2.2.1 l[k].2.2.2.2.2.2.2.1 l[k].2.2.2.2.2.2.2.2.1 l[k].2.2.2.2.2.2.2.2.2.1 l[k].2.2.2.2.2.2.2.2.2.2.1 l[k].2.2.2.2.2.2.2.2.2.2.2 = some l[k] := h.1 (l[k]) (hl.2 _ (List.getElem_mem hk))
  simp only [laws_toRecS_L1, lt_cast, decide_eq_true hk, inR_true hk, Int.toNat_natCast, getD_at hk, cond_true, wrap_succ hk (by omega), inR_true hks, Option.bind_some, id, e]
theorem szRecS_ok : EV fun n => ∀ (l : T_RecS) (s : Int), sm_RecS 140737488355328 l → 0 ≤ s → s ≤ big → laws_szRecS n l s = some (szR (cost_RecS l) s) := (szRec_ok.and (EV.gt 140737488355328)).up fun n h l s hl g0 g1 => by
  have hlen := hl.1
  rw [laws_szRecS]
  unfold cost_RecS
  refine sz_str (r := fun s => laws_szRecS_L1 n n l s (0 : Int)) (m := l.length) g0 g1 (by simp only [big]; omega) fun s g0 g1 => ?_
  refine sz_loop l _ (fun j k s => laws_szRecS_L1 n j l s (k : Int)) (fun j s => by simp only [laws_szRecS_L1, lt_cast, Nat.lt_irrefl, decide_false, cond_false]) (fun j k s hk h0 h1 => ?_) l n 0 s rfl (by omega) (by omega) g0 g1
  have e : laws_szRec n l[k].1 l[k].2.1 l[k].2.2.1 l[k].2.2.2.1 l[k].2.2.2.2.1 l[k].2.2.2.2.2.1 l[k].2.2.2.2.2.2.1 l[k].2.2.2.2.2.2.2.1 l[k].2.2.2.2.2.2.2.2.1 l[k].2.2.2.2.2.2.2.2.2.1 l[k].2.2.2.2.2.2.2.2.2.2.1 l[k].2.2.2.2.2.2.2.2.2.2.2 s = some (szR (cost_Rec l[k]) s) := h.1 (l[k]) s (hl.2 _ (List.getElem_mem hk)) h0 h1
  simp only [laws_szRecS_L1, lt_cast, decide_eq_true hk, inR_true hk, Int.toNat_natCast, getD_at hk, cond_true, wrap_succ hk (by omega), e, Option.bind_some]
  exact szR_step (fun s => laws_szRecS_L1 n j l s ((k + 1 : Nat) : Int)) _ h0
theorem eqRecS_ok : EV fun n => ∀ (l m : T_RecS), sm_RecS 1048576 l → laws_eqRecS n l m = some (decide (l = m)) := (eqRec_ok.and (EV.gt 1048576)).up fun n h l m hl => by
  have hlen := hl.1
  rw [laws_eqRecS]
  by_cases hlm : l.length = m.length
  · have : ((l.length : Int) != (m.length : Int)) = false := by simp [hlm]
    simp only [this, cond_false]
    refine (eq_loop l m hlm (fun j k => laws_eqRecS_L1 n j l m (k : Int)) (fun j => by simp only [laws_eqRecS_L1, lt_cast, Nat.lt_irrefl, decide_false, cond_false]) (fun j k hk hk2 => ?_) l n 0 rfl (by omega) (by omega)).trans (by simp)
    have e : laws_eqRec n l[k].1 l[k].2.1 l[k].2.2.1 l[k].2.2.2.1 l[k].2.2.2.2.1 l[k].2.2.2.2.2.1 l[k].2.2.2.2.2.2.1 l[k].2.2.2.2.2.2.2.1 l[k].2.2.2.2.2.2.2.2.1 l[k].2.2.2.2.2.2.2.2.2.1 l[k].2.2.2.2.2.2.2.2.2.2.1 l[k].2.2.2.2.2.2.2.2.2.2.2 m[k].1 m[k].2.1 m[k].2.2.1 m[k].2.2.2.1 m[k].2.2.2.2.1 m[k].2.2.2.2.2.1 m[k].2.2.2.2.2.2.1 m[k].2.2.2.2.2.2.2.1 m[k].2.2.2.2.2.2.2.2.1 m[k].2.2.2.2.2.2.2.2.2.1 m[k].2.2.2.2.2.2.2.2.2.2.1 m[k].2.2.2.2.2.2.2.2.2.2.2 = some (decide (l[k] = m[k])) := h.1 (l[k]) (m[k]) (hl.2 _ (List.getElem_mem hk))
    simp only [laws_eqRecS_L1, lt_cast, decide_eq_true hk, inR_true hk, Int.toNat_natCast, getD_at hk, cond_true, wrap_succ hk (by omega), getD_at hk2, inR_true hk2, e, Option.bind_some]
    exact eq_step (l[k]) (m[k]) _
  · have : ((l.length : Int) != (m.length : Int)) = true := by simp; omega
    simp only [this, cond_true]
    congr 1; exact (decide_eq_false fun h => hlm (by rw [h])).symm
abbrev T_ByteS := List Int
def cost_ByteS (x : T_ByteS) : Nat := x.length + (x.map (fun _ => 0)).sum
def sm_ByteS (k : Nat) (l : T_ByteS) : Prop := l.length ≤ k ∧ ∀ x ∈ l, 0 ≤ x ∧ x ≤ 255
abbrev T_IntS := List Int
def cost_IntS (x : T_IntS) : Nat := x.length + (x.map (fun _ => 0)).sum
def sm_IntS (k : Nat) (l : T_IntS) : Prop := l.length ≤ k ∧ ∀ x ∈ l, True
theorem cost_sm_IntS {k : Nat} {l : T_IntS} (h : cost_IntS l ≤ k) : sm_IntS k l := by
  unfold cost_IntS at h
  unfold sm_IntS
  refine ⟨by omega, fun x hx => ?_⟩
  trivial
theorem eqIntS_ok : EV fun n => ∀ (l m : T_IntS), sm_IntS 1048576 l → laws_eqIntS n l m = some (decide (l = m)) := (EV.gt 1048576).up fun n h l m hl => by
  have hlen := hl.1
  rw [laws_eqIntS]
  by_cases hlm : l.length = m.length
  · have : ((l.length : Int) != (m.length : Int)) = false := by simp [hlm]
    simp only [this, cond_false]
    refine (eq_loop l m hlm (fun j k => laws_eqIntS_L1 n j l m (k : Int)) (fun j => by simp only [laws_eqIntS_L1, lt_cast, Nat.lt_irrefl, decide_false, cond_false]) (fun j k hk hk2 => ?_) l n 0 rfl (by omega) (by omega)).trans (by simp)
    simp only [laws_eqIntS_L1, lt_cast, decide_eq_true hk, inR_true hk, Int.toNat_natCast, getD_at hk, cond_true, wrap_succ hk (by omega), getD_at hk2, inR_true hk2]
    exact eq_step2 (l[k]) (m[k]) _
  · have : ((l.length : Int) != (m.length : Int)) = true := by simp; omega
    simp only [this, cond_true]
    congr 1; exact (decide_eq_false fun h => hlm (by rw [h])).symm
theorem markText_run : ∀ (d : Nat) (k : Int) (s : ByteArray), k < 10 ^ d → k ≤ 9223372036854775807 → s.size + d ≤ 1000 → ∃ r, ∀ n j, d < j → laws_markText_L1 n j k s = some r
  | 0, k, s, h, _, hs => by
    refine ⟨(⟨#[109]⟩ : ByteArray) ++ s, fun n j hj => ?_⟩
    obtain ⟨j, rfl⟩ : ∃ i, j = i + 1 := ⟨j - 1, by omega⟩
    have h' : ¬ (0 < k) := by simp at h; omega
    have e : (⟨#[109]⟩ : ByteArray).size = 1 := rfl
    simp only [laws_markText_L1, decide_eq_false h', cond_false, e]
    rw [decide_eq_true (by omega), cond_true]
  | d + 1, k, s, h, hm, hs => by
    by_cases h' : 0 < k
    · have h10 : (10 : Int) ^ (d + 1) = 10 ^ d * 10 := Int.pow_succ ..
      have he : k.tdiv 10 = k / 10 := Int.tdiv_eq_ediv_of_nonneg (by omega)
      have hd : k / 10 < 10 ^ d := by omega
      have e : ∀ x : Int, (strOfNums [x]).size = 1 := fun x => rfl
      obtain ⟨r, hr⟩ := markText_run d (k / 10) (strOfNums [IntKind.wrap .u8 (IntKind.wrap .i64 ((48 : Int) + (Int.tmod k (10 : Int))))] ++ s) hd (by omega) (by simp [e]; omega)
      refine ⟨r, fun n j hj => ?_⟩
      obtain ⟨j, rfl⟩ : ∃ i, j = i + 1 := ⟨j - 1, by omega⟩
      simp only [laws_markText_L1, decide_eq_true h', cond_true, e]
      rw [decide_eq_true (show 1 + s.size ≤ 9223372036854775807 by omega), he, wrap64 (x := k / 10) (by omega) (by omega)]
      simp only [cond_true]
      exact hr n j (by omega)
    · refine ⟨(⟨#[109]⟩ : ByteArray) ++ s, fun n j hj => ?_⟩
      obtain ⟨j, rfl⟩ : ∃ i, j = i + 1 := ⟨j - 1, by omega⟩
      have e : (⟨#[109]⟩ : ByteArray).size = 1 := rfl
      simp only [laws_markText_L1, decide_eq_false h', cond_false, e]
      rw [decide_eq_true (by omega), cond_true]
def mtx (k : Int) : ByteArray := (laws_markText 40 k).getD ⟨#[]⟩
theorem markText_ok : EV fun n => ∀ k : Int, k ≤ 9223372036854775807 → laws_markText n k = some (mtx k) := (EV.gt 40).up fun n hn k hk => by
  obtain ⟨r, hr⟩ := markText_run 20 k ⟨#[]⟩ (Int.lt_of_le_of_lt hk (by decide)) hk (by decide)
  unfold mtx
  simp only [laws_markText]
  rw [hr n n (by omega), hr 39 39 (by omega)]
  cases decide (k ≤ 0) <;> rfl

def mc_ValS (x : T_ValS) : Nat := mcL (fun _ => 3) x
def mk_ValS (k : Int) (x : T_ValS) : T_ValS := mkL (fun k _ => (k, (k + 1, mtx (k + 2)))) (fun _ => 3) k x
theorem mb_ValS {x : T_ValS} (h : sm_ValS 1048576 x) : mc_ValS x ≤ 3145728 := mcL_le' (b := 3) (fun _ _ => by decide) h.1 (by decide)
theorem markValS_ok : EV fun n => ∀ (x : T_ValS) (k : Int), sm_ValS 1048576 x → 0 ≤ k → k + mc_ValS x ≤ markMax → laws_markValS_o n x k = some (k + mc_ValS x, (mk_ValS k x, ())) := (markText_ok.and (EV.gt 1048578)).up fun n ⟨h, hn⟩ x k hs h0 h1 => by
  have hl := hs.1
  have d3 : decide ((3 : Int) = 0) = false := by decide
  rw [laws_markValS_o]
  refine mark_loop (fun k _ => (k, (k + 1, mtx (k + 2)))) (fun _ => 3) (fun _ => True) (fun j k i l => laws_markValS_o_L1 n j k i l) (fun j k l => by simp only [laws_markValS_o_L1, lt_cast, Nat.lt_irrefl, decide_false, cond_false]) (fun j k i l hi _ h0 h1 hl => ?_) x [] n k (by omega) (by simp; omega) (fun _ _ => trivial) h0 h1
  simp only [markMax] at h1
  simp only [laws_markValS_o_L1, lt_cast, decide_eq_true hi, inR_true hi, cond_true, Int.toNat_natCast, wrap_succ hi (by omega)]
  simp (disch := omega) only [wrapk, List.length_set, getD_at hi, setAt, inR_true hi, cond_true, List.set_set, h, Option.bind_some, Int.add_assoc, Int.reduceAdd, Int.toNat_natCast]
  rfl
def mc_ColS (x : T_ColS) : Nat := mcL (fun _ => 7) x
def mk_ColS (k : Int) (x : T_ColS) : T_ColS := mkL (fun k _ => (mtx k, (k + 1, (Int.tmod (k + 2) 3 == 0, (Int.tmod (k + 3) 3 == 0, (k + 4, (k + 5, mtx (k + 6)))))))) (fun _ => 7) k x
theorem mb_ColS {x : T_ColS} (h : sm_ColS 1048576 x) : mc_ColS x ≤ 7340032 := mcL_le' (b := 7) (fun _ _ => by decide) h.1 (by decide)
theorem markColS_ok : EV fun n => ∀ (x : T_ColS) (k : Int), sm_ColS 1048576 x → 0 ≤ k → k + mc_ColS x ≤ markMax → laws_markColS_o n x k = some (k + mc_ColS x, (mk_ColS k x, ())) := (markText_ok.and (EV.gt 1048578)).up fun n ⟨h, hn⟩ x k hs h0 h1 => by
  have hl := hs.1
  have d3 : decide ((3 : Int) = 0) = false := by decide
  rw [laws_markColS_o]
  refine mark_loop (fun k _ => (mtx k, (k + 1, (Int.tmod (k + 2) 3 == 0, (Int.tmod (k + 3) 3 == 0, (k + 4, (k + 5, mtx (k + 6)))))))) (fun _ => 7) (fun _ => True) (fun j k i l => laws_markColS_o_L1 n j k i l) (fun j k l => by simp only [laws_markColS_o_L1, lt_cast, Nat.lt_irrefl, decide_false, cond_false]) (fun j k i l hi _ h0 h1 hl => ?_) x [] n k (by omega) (by simp; omega) (fun _ _ => trivial) h0 h1
  simp only [markMax] at h1
  simp only [laws_markColS_o_L1, lt_cast, decide_eq_true hi, inR_true hi, cond_true, Int.toNat_natCast, wrap_succ hi (by omega)]
  simp (disch := omega) only [wrapk, List.length_set, getD_at hi, setAt, inR_true hi, cond_true, List.set_set, h, Option.bind_some, Int.add_assoc, Int.reduceAdd, Int.toNat_natCast, d3, Bool.not_false]
  rfl
def mc_StringS (x : T_StringS) : Nat := mcL (fun _ => 1) x
def mk_StringS (k : Int) (x : T_StringS) : T_StringS := mkL (fun k _ => mtx k) (fun _ => 1) k x
theorem mb_StringS {x : T_StringS} (h : sm_StringS 1048576 x) : mc_StringS x ≤ 1048576 := mcL_le' (b := 1) (fun _ _ => by decide) h.1 (by decide)
theorem mb_StringSK {x : T_StringS} (h : sm_StringS 1048577 x) : mc_StringS x ≤ 1048577 := mcL_le' (b := 1) (fun _ _ => by decide) h.1 (by decide)
theorem markStringS_okK : EV fun n => ∀ (x : T_StringS) (k : Int), sm_StringS 1048577 x → 0 ≤ k → k + mc_StringS x ≤ markMax → laws_markStringS_o n x k = some (k + mc_StringS x, (mk_StringS k x, ())) := (markText_ok.and (EV.gt 1048578)).up fun n ⟨h, hn⟩ x k hs h0 h1 => by
  have hl := hs.1
  have d3 : decide ((3 : Int) = 0) = false := by decide
  rw [laws_markStringS_o]
  refine mark_loop (fun k _ => mtx k) (fun _ => 1) (fun _ => True) (fun j k i l => laws_markStringS_o_L1 n j k i l) (fun j k l => by simp only [laws_markStringS_o_L1, lt_cast, Nat.lt_irrefl, decide_false, cond_false]) (fun j k i l hi _ h0 h1 hl => ?_) x [] n k (by omega) (by simp; omega) (fun _ _ => trivial) h0 h1
  simp only [markMax] at h1
  simp only [laws_markStringS_o_L1, lt_cast, decide_eq_true hi, inR_true hi, cond_true, Int.toNat_natCast, wrap_succ hi (by omega)]
  simp (disch := omega) only [wrapk, List.length_set, getD_at hi, setAt, inR_true hi, cond_true, List.set_set, h, Option.bind_some, Int.add_assoc, Int.reduceAdd, Int.toNat_natCast]
  rfl
theorem markStringS_ok : EV fun n => ∀ (x : T_StringS) (k : Int), sm_StringS 1048576 x → 0 ≤ k → k + mc_StringS x ≤ markMax → laws_markStringS_o n x k = some (k + mc_StringS x, (mk_StringS k x, ())) := markStringS_okK.mono fun n h x k hs h0 h1 => h x k (sm_up hs) h0 h1
def mc_IntS (x : T_IntS) : Nat := mcL (fun _ => 1) x
def mk_IntS (k : Int) (x : T_IntS) : T_IntS := mkL (fun k _ => k) (fun _ => 1) k x
theorem mb_IntS {x : T_IntS} (h : sm_IntS 1048576 x) : mc_IntS x ≤ 1048576 := mcL_le' (b := 1) (fun _ _ => by decide) h.1 (by decide)
theorem markIntS_ok : EV fun n => ∀ (x : T_IntS) (k : Int), sm_IntS 1048576 x → 0 ≤ k → k + mc_IntS x ≤ markMax → laws_markIntS_o n x k = some (k + mc_IntS x, (mk_IntS k x, ())) := (EV.true.and (EV.gt 1048578)).up fun n ⟨h, hn⟩ x k hs h0 h1 => by
  have hl := hs.1
  have d3 : decide ((3 : Int) = 0) = false := by decide
  rw [laws_markIntS_o]
  refine mark_loop (fun k _ => k) (fun _ => 1) (fun _ => True) (fun j k i l => laws_markIntS_o_L1 n j k i l) (fun j k l => by simp only [laws_markIntS_o_L1, lt_cast, Nat.lt_irrefl, decide_false, cond_false]) (fun j k i l hi _ h0 h1 hl => ?_) x [] n k (by omega) (by simp; omega) (fun _ _ => trivial) h0 h1
  simp only [markMax] at h1
  simp only [laws_markIntS_o_L1, lt_cast, decide_eq_true hi, inR_true hi, cond_true, Int.toNat_natCast, wrap_succ hi (by omega)]
  simp (disch := omega) only [wrapk, List.length_set, getD_at hi, setAt, inR_true hi, cond_true, List.set_set, Option.bind_some, Int.add_assoc, Int.reduceAdd, Int.toNat_natCast]
  rfl
theorem heldIntS_ok : EV fun n => ∀ (x : T_IntS) (k : Int), sm_IntS 1048576 x → 0 ≤ k → k + mc_IntS x ≤ markMax → laws_heldIntS n (mk_IntS k x) k = some (k + mc_IntS x) := (EV.true.and (EV.gt 1048578)).up fun n ⟨h, hn⟩ x k hs h0 h1 => by
  have hl := hs.1
  have d3 : decide ((3 : Int) = 0) = false := by decide
  have hlen := mkL_len (fun (k : Int) (_ : Int) => k) (fun _ => 1) x k
  rw [laws_heldIntS]
  refine held_loop (fun k _ => k) (fun _ => 1) (fun _ => True) (mk_IntS k x) (fun j k' i => laws_heldIntS_L1 n j (mk_IntS k x) k' i) (by unfold mk_IntS; omega) (fun j k' => by simp only [laws_heldIntS_L1, lt_cast, Nat.lt_irrefl, decide_false, cond_false]) (fun j k' i y hi _ hx h0 h1 => ?_) x [] n k rfl (by omega) (fun _ _ => trivial) h0 h1
  have hi2 : i < 1048578 := by unfold mk_IntS at hi; omega
  simp only [markMax] at h1
  simp only [laws_heldIntS_L1, lt_cast, decide_eq_true hi, inR_true hi, cond_true, Int.toNat_natCast, getD_at hi, hx]
  rw [wrap64 (x := (i : Int) + 1) (by omega) (by omega), show (i : Int) + 1 = ((i + 1 : Nat) : Int) by omega]
  simp (disch := omega) only [wrapk, d3, Option.bind_some, Int.add_assoc, Int.reduceAdd, bne_self_eq_false, BEq.rfl, Bool.not_true, Bool.not_false, cond_false, cond_true]
  rfl
theorem wf_str {n : Nat} (h : n ≤ reachBytes) : n ≤ 140737488355328 := Nat.le_trans h (by decide)
theorem wf_len {n b : Nat} (hb : 1 ≤ b) (h : n * b ≤ reachBytes) : n ≤ 140737488355328 := Nat.le_trans (Nat.le_trans (Nat.le_mul_of_pos_right n hb) h) (by decide)
abbrev K_Val : Kd := .pair (.int .i64) (.pair (.int .i64) (.str))
theorem wf_Val {B : Kd → Nat} (hB : ∀ g, 1 ≤ B g) (x : T_Val) (h : Wf B K_Val x) : sm_Val 140737488355328 x := wf_str h.2.2
abbrev K_ValS : Kd := .sl K_Val
theorem wf_ValS {B : Kd → Nat} (hB : ∀ g, 1 ≤ B g) (x : T_ValS) (h : Wf B K_ValS x) : sm_ValS 140737488355328 x := ⟨wf_len (hB _) h.1, fun y hy => wf_Val hB y (h.2 y hy)⟩
abbrev K_Col : Kd := .pair .str (.pair (.int .i64) (.pair .bool (.pair .bool (K_Val))))
theorem wf_Col {B : Kd → Nat} (hB : ∀ g, 1 ≤ B g) (x : T_Col) (h : Wf B K_Col x) : sm_Col 140737488355328 x := ⟨wf_str h.1, wf_Val hB x.2.2.2.2 h.2.2.2.2⟩
abbrev K_ColS : Kd := .sl K_Col
theorem wf_ColS {B : Kd → Nat} (hB : ∀ g, 1 ≤ B g) (x : T_ColS) (h : Wf B K_ColS x) : sm_ColS 140737488355328 x := ⟨wf_len (hB _) h.1, fun y hy => wf_Col hB y (h.2 y hy)⟩
abbrev K_StringS : Kd := .sl .str
theorem wf_StringS {B : Kd → Nat} (hB : ∀ g, 1 ≤ B g) (x : T_StringS) (h : Wf B K_StringS x) : sm_StringS 140737488355328 x := ⟨wf_len (hB _) h.1, fun y hy => wf_str (h.2 y hy)⟩
abbrev K_Table : Kd := .pair .str (.pair K_ColS (K_StringS))
theorem wf_Table {B : Kd → Nat} (hB : ∀ g, 1 ≤ B g) (x : T_Table) (h : Wf B K_Table x) : sm_Table 140737488355328 x := ⟨wf_str h.1, wf_ColS hB x.2.1 h.2.1, wf_StringS hB x.2.2 h.2.2⟩
abbrev K_TableS : Kd := .sl K_Table
theorem wf_TableS {B : Kd → Nat} (hB : ∀ g, 1 ≤ B g) (x : T_TableS) (h : Wf B K_TableS x) : sm_TableS 140737488355328 x := ⟨wf_len (hB _) h.1, fun y hy => wf_Table hB y (h.2 y hy)⟩
abbrev K_Cat : Kd := K_TableS
theorem wf_Cat {B : Kd → Nat} (hB : ∀ g, 1 ≤ B g) (x : T_Cat) (h : Wf B K_Cat x) : sm_Cat 140737488355328 x := wf_TableS hB x h
abbrev K_Row : Kd := K_ValS
theorem wf_Row {B : Kd → Nat} (hB : ∀ g, 1 ≤ B g) (x : T_Row) (h : Wf B K_Row x) : sm_Row 140737488355328 x := wf_ValS hB x h
abbrev K_RowS : Kd := .sl K_Row
theorem wf_RowS {B : Kd → Nat} (hB : ∀ g, 1 ≤ B g) (x : T_RowS) (h : Wf B K_RowS x) : sm_RowS 140737488355328 x := ⟨wf_len (hB _) h.1, fun y hy => wf_Row hB y (h.2 y hy)⟩
abbrev K_Rows : Kd := K_RowS
theorem wf_Rows {B : Kd → Nat} (hB : ∀ g, 1 ≤ B g) (x : T_Rows) (h : Wf B K_Rows x) : sm_Rows 140737488355328 x := wf_RowS hB x h
abbrev K_RowsS : Kd := .sl K_Rows
theorem wf_RowsS {B : Kd → Nat} (hB : ∀ g, 1 ≤ B g) (x : T_RowsS) (h : Wf B K_RowsS x) : sm_RowsS 140737488355328 x := ⟨wf_len (hB _) h.1, fun y hy => wf_Rows hB y (h.2 y hy)⟩
abbrev K_Db : Kd := .pair K_Cat (K_RowsS)
theorem wf_Db {B : Kd → Nat} (hB : ∀ g, 1 ≤ B g) (x : T_Db) (h : Wf B K_Db x) : sm_Db 140737488355328 x := ⟨wf_Cat hB x.1 h.1, wf_RowsS hB x.2 h.2⟩
abbrev K_Ddl : Kd := .pair (.int .i64) (.pair .str (.pair K_ColS (.pair K_StringS (.pair .str (.str)))))
theorem wf_Ddl {B : Kd → Nat} (hB : ∀ g, 1 ≤ B g) (x : T_Ddl) (h : Wf B K_Ddl x) : sm_Ddl 140737488355328 x := ⟨wf_str h.2.1, wf_ColS hB x.2.2.1 h.2.2.1, wf_StringS hB x.2.2.2.1 h.2.2.2.1, wf_str h.2.2.2.2.1, wf_str h.2.2.2.2.2⟩
abbrev K_Stmt : Kd := .pair (.int .i64) (.pair .str (.pair K_ValS (.pair K_Row (K_Ddl))))
theorem wf_Stmt {B : Kd → Nat} (hB : ∀ g, 1 ≤ B g) (x : T_Stmt) (h : Wf B K_Stmt x) : sm_Stmt 140737488355328 x := ⟨wf_str h.2.1, wf_ValS hB x.2.2.1 h.2.2.1, wf_Row hB x.2.2.2.1 h.2.2.2.1, wf_Ddl hB x.2.2.2.2 h.2.2.2.2⟩
abbrev K_StmtS : Kd := .sl K_Stmt
theorem wf_StmtS {B : Kd → Nat} (hB : ∀ g, 1 ≤ B g) (x : T_StmtS) (h : Wf B K_StmtS x) : sm_StmtS 140737488355328 x := ⟨wf_len (hB _) h.1, fun y hy => wf_Stmt hB y (h.2 y hy)⟩
abbrev K_Rec : Kd := .pair (.int .i64) (.pair (.int .i64) (K_Stmt))
theorem wf_Rec {B : Kd → Nat} (hB : ∀ g, 1 ≤ B g) (x : T_Rec) (h : Wf B K_Rec x) : sm_Rec 140737488355328 x := wf_Stmt hB x.2.2 h.2.2
abbrev K_RecS : Kd := .sl K_Rec
theorem wf_RecS {B : Kd → Nat} (hB : ∀ g, 1 ≤ B g) (x : T_RecS) (h : Wf B K_RecS x) : sm_RecS 140737488355328 x := ⟨wf_len (hB _) h.1, fun y hy => wf_Rec hB y (h.2 y hy)⟩
abbrev K_ByteS : Kd := .sl (.int .u8)
theorem wf_ByteS {B : Kd → Nat} (hB : ∀ g, 1 ≤ B g) (x : T_ByteS) (h : Wf B K_ByteS x) : sm_ByteS 140737488355328 x := ⟨wf_len (hB _) h.1, fun y hy => h.2 y hy⟩
abbrev K_IntS : Kd := .sl (.int .i64)
theorem wf_IntS {B : Kd → Nat} (hB : ∀ g, 1 ≤ B g) (x : T_IntS) (h : Wf B K_IntS x) : sm_IntS 140737488355328 x := ⟨wf_len (hB _) h.1, fun y hy => trivial⟩
theorem idx_any {α : Type} (p : α → Bool) : ∀ (l : List α) (k : Nat), decide ((0 : Int) ≤ idxFrom p l k) = l.any p
  | [], _ => rfl
  | x :: t, k => by
    simp only [idxFrom, List.any_cons]
    by_cases h : p x = true
    · simp [h]
    · simp only [h, Bool.false_or]; exact idx_any p t (k + 1)
theorem any_loop {α : Type} (p : α → Bool) (l : List α) (L : Nat → Nat → Option Bool) (hexit : ∀ j, L (j + 1) l.length = some false)
    (hstep : ∀ j k (h : k < l.length), L (j + 1) k = if p l[k] = true then some true else L j (k + 1)) :
    ∀ (t : List α) (j k : Nat), l.drop k = t → k ≤ l.length → t.length < j → L j k = some (t.any p)
  | [], j + 1, k, hd, hk, _ => by
    have : k = l.length := by
      rcases Nat.lt_or_ge k l.length with h' | h'
      · rw [List.drop_eq_getElem_cons h'] at hd; cases hd
      · omega
    subst this; rw [hexit]; rfl
  | x :: t, j + 1, k, hd, hk, hj => by
    obtain ⟨h2, h3, h4⟩ := drop_cons hd x
    have hx : l[k] = x := by simpa [List.getD, h2] using h3
    rw [hstep j k h2, hx, any_loop p l L hexit hstep t j (k + 1) h4 (by omega) (by simp at hj; omega)]
    by_cases hp : p x = true <;> simp [hp]
def wsOk (ws : List ByteArray) : Prop := ws.length ≤ 1048577 ∧ ∀ w ∈ ws, w.size ≤ 1048576
theorem wsOk.drop {ws : List ByteArray} (h : wsOk ws) (i : Nat) : wsOk (ws.drop i) := ⟨by have := h.1; simp; omega, fun w hw => h.2 w (List.mem_of_mem_drop hw)⟩
theorem wsOk.take {ws : List ByteArray} (h : wsOk ws) (i : Nat) : wsOk (ws.take i) := ⟨by have := h.1; simp; omega, fun w hw => h.2 w (List.mem_of_mem_take hw)⟩
def has (l : List Int) (x : Int) : Bool := l.any fun y => decide (y = x)
def but (l : List Int) (x : Int) : List Int := l.filter fun y => !decide (y = x)
theorem but_len (l : List Int) (x : Int) : (but l x).length ≤ l.length := List.length_filter_le _ _
theorem room8 {n : Nat} (h : n ≤ 2097154) : room n 8 = true := by simp [room]; omega
theorem spec_l07Has_ok : EV fun n => ∀ (l : List Int) (x : Int), l.length ≤ 1048576 → spec_l07Has n l x = some (has l x) := (EV.gt 1048578).up fun n hn l x hl => by
  rw [spec_l07Has]
  refine any_loop (fun y => decide (y = x)) l (fun j k => spec_l07Has_L1 n j x l (l.length : Int) (k : Int)) (fun j => by simp only [spec_l07Has_L1, lt_cast, Nat.lt_irrefl, decide_false, cond_false]) (fun j k hk => ?_) l n 0 rfl (by omega) (by omega)
  simp only [spec_l07Has_L1, lt_cast, decide_eq_true hk, inR_true hk, Int.toNat_natCast, getD_at hk, cond_true, wrap_succ hk (by omega), int_beq]
  exact bif_step' _ _
theorem filter_loop {α : Type} (p : α → Bool) (l : List α) (L : Nat → Nat → List α → Option (List α)) (hexit : ∀ j s, L (j + 1) l.length s = some s)
    (hstep : ∀ j k s (h : k < l.length), s.length ≤ k → L (j + 1) k s = if p l[k] = true then L j (k + 1) (s ++ [l[k]]) else L j (k + 1) s) :
    ∀ (t : List α) (j k : Nat) (s : List α), l.drop k = t → k ≤ l.length → t.length < j → s.length ≤ k → L j k s = some (s ++ t.filter p)
  | [], j + 1, k, s, hd, hk, _, hs => by
    have : k = l.length := by
      rcases Nat.lt_or_ge k l.length with h' | h'
      · rw [List.drop_eq_getElem_cons h'] at hd; cases hd
      · omega
    subst this; rw [hexit]; simp
  | x :: t, j + 1, k, s, hd, hk, hj, hs => by
    obtain ⟨h2, h3, h4⟩ := drop_cons hd x
    have hx : l[k] = x := by simpa [List.getD, h2] using h3
    rw [hstep j k s h2 hs, hx]
    by_cases hp : p x = true
    · rw [if_pos hp, filter_loop p l L hexit hstep t j (k + 1) _ h4 (by omega) (by simp at hj; omega) (by simp; omega)]
      simp [hp]
    · rw [if_neg hp, filter_loop p l L hexit hstep t j (k + 1) _ h4 (by omega) (by simp at hj; omega) (by omega)]
      simp [hp]
theorem spec_l07But_ok : EV fun n => ∀ (l : List Int) (x : Int), l.length ≤ 1048576 → spec_l07But n l x = some (but l x) := (EV.gt 1048578).up fun n hn l x hl => by
  rw [spec_l07But]
  refine (filter_loop (fun y => !decide (y = x)) l (fun j k s => spec_l07But_L1 n j x l (l.length : Int) (k : Int) s) (fun j s => by simp only [spec_l07But_L1, lt_cast, Nat.lt_irrefl, decide_false, cond_false]) (fun j k s hk hs => ?_) l n 0 [] rfl (by omega) (by omega) (by simp)).trans (by rfl)
  have hr : ∀ v : Int, room (s.length + [v].length) 8 = true := fun v => room8 (by simp; omega)
  simp only [spec_l07But_L1, lt_cast, decide_eq_true hk, inR_true hk, Int.toNat_natCast, getD_at hk, cond_true, wrap_succ hk (by omega), int_bne, hr]
  exact bif_step' _ _
theorem openOne_ok : EV fun n => ∀ (y : Int) (r : T_Rec), impl_Open_1 n y r = some (decide (y = r.2.1)) := EV.true.up fun n _ y r => by
  simp only [impl_Open_1, int_beq]
theorem idx_but : ∀ (l : List Int) (x : Int) (k : Nat), (idxFrom (fun y => decide (y = x)) l k = -1 ∧ but l x = l) ∨ ∃ m : Nat, m < l.length ∧ idxFrom (fun y => decide (y = x)) l k = ((k + m : Nat) : Int) ∧ but l x = l.take m ++ but (l.drop (m + 1)) x
  | [], x, k => .inl ⟨rfl, rfl⟩
  | y :: l, x, k => by
    by_cases h : y = x
    · right
      refine ⟨0, by simp, by simp [idxFrom, h], by simp [but, h]⟩
    · have e : idxFrom (fun y => decide (y = x)) (y :: l) k = idxFrom (fun y => decide (y = x)) l (k + 1) := by simp [idxFrom, h]
      have b : but (y :: l) x = y :: but l x := by simp [but, h]
      rw [e, b]
      rcases idx_but l x (k + 1) with ⟨h1, h2⟩ | ⟨m, h1, h2, h3⟩
      · exact .inl ⟨h1, by rw [h2]⟩
      · exact .inr ⟨m + 1, by simp; omega, by rw [h2]; omega, by rw [h3]; simp⟩
theorem openIdx_ok : EV fun n => ∀ (l : List Int) (r : T_Rec), l.length ≤ 1048576 → slices_IndexFunc_int_int__impl_Open_1 n l r = some (idx (fun y => decide (y = r.2.1)) l) := (openOne_ok.and (EV.gt 1048578)).up fun n ⟨h1, hn⟩ l r hl => by
  rw [slices_IndexFunc_int_int__impl_Open_1]
  refine find_loop (fun y => decide (y = r.2.1)) l (fun j k => slices_IndexFunc_int_int__impl_Open_1_L1 n j l r (l.length : Int) (k : Int)) (fun j => by simp only [slices_IndexFunc_int_int__impl_Open_1_L1, lt_cast, Nat.lt_irrefl, decide_false, cond_false]) (fun j k hk => ?_) l n 0 rfl (by omega) (by omega)
  simp only [slices_IndexFunc_int_int__impl_Open_1_L1, lt_cast, decide_eq_true hk, inR_true hk, Int.toNat_natCast, getD_at hk, cond_true, wrap_succ hk (by omega), h1, Option.bind_some]
  exact bif_step' _ _
theorem openDel_ok : EV fun n => ∀ (l : List Int) (r : T_Rec), l.length ≤ 1048576 → slices_DeleteFunc_int_int_o__impl_Open_1 n l r = some (but l r.2.1) := (openOne_ok.and (openIdx_ok.and (EV.gt 1048578))).up fun n ⟨h1, h2, hn⟩ l r hl => by
  have loop : ∀ (t : List Int) (j k i : Nat) (cur : List Int), cur.drop k = t → k ≤ cur.length → i ≤ k → t.length < j → cur.length ≤ 1048576 →
      slices_DeleteFunc_int_int_o__impl_Open_1_L1 n j r (i : Int) (k : Int) cur = some (cur.take i ++ but t r.2.1) := by
    intro t
    induction t with
    | nil =>
      intro j k i cur hd hk hi hj hc
      obtain ⟨j, rfl⟩ : ∃ j', j = j' + 1 := ⟨j - 1, by omega⟩
      have : k = cur.length := by have := congrArg List.length hd; simp at this; omega
      subst this
      have q1 : decide (0 ≤ (i : Int) ∧ (i : Int) ≤ ((cur.length : Nat) : Int) ∧ ((cur.length : Nat) : Int) ≤ (cur.length : Int)) = true := decide_eq_true ⟨by omega, by omega, by omega⟩
      have q2 : decide (0 ≤ ((0 : Nat) : Int) ∧ ((0 : Nat) : Int) ≤ (i : Int) ∧ (i : Int) ≤ ((cur.take i ++ List.replicate (cur.length - i) (0 : Int) ++ cur.drop (i + (cur.length - i))).length : Int)) = true := decide_eq_true ⟨by omega, by omega, by simp; omega⟩
      simp only [slices_DeleteFunc_int_int_o__impl_Open_1_L1, lt_cast, Nat.lt_irrefl, decide_false, cond_false, q1, cond_true, Int.toNat_natCast, q2]
      have : (cur.take i).length = i := by simp; omega
      simp only [but, List.filter_nil, List.append_nil, Nat.sub_zero]
      rw [List.append_assoc, List.take_append_of_le_length (by omega), List.take_of_length_le (by omega)]
    | cons y t ih =>
      intro j k i cur hd hk hi hj hc
      obtain ⟨j, rfl⟩ : ∃ j', j = j' + 1 := ⟨j - 1, by omega⟩
      obtain ⟨g2, g3, g4⟩ := drop_cons hd y
      have hx : cur[k] = y := by simpa [List.getD, g2] using g3
      have hik : i < cur.length := by omega
      simp only [slices_DeleteFunc_int_int_o__impl_Open_1_L1, lt_cast, decide_eq_true g2, inR_true g2, inR_true hik, Int.toNat_natCast, getD_at g2, hx, cond_true, wrap_succ g2 (by omega), wrap_succ hik (by omega), h1, Option.bind_some]
      by_cases h : y = r.2.1
      · simp only [h, decide_true, Bool.not_true, cond_false]
        rw [ih j (k + 1) i cur g4 (by omega) (by omega) (by simp at hj; omega) hc]
        simp [but]
      · simp only [h, decide_false, Bool.not_false, cond_true]
        rw [ih j (k + 1) (i + 1) (cur.set i y) (by rw [List.drop_set_of_lt (by omega)]; exact g4) (by simp; omega) (by omega) (by simp at hj; omega) (by simpa using hc)]
        have e : (cur.set i y).take (i + 1) = cur.take i ++ [y] := by
          rw [List.take_add_one, List.take_set_of_le (by omega), List.getElem?_set_self hik]; rfl
        rw [e]
        simp [but, h]
  rw [slices_DeleteFunc_int_int_o__impl_Open_1, h2 l r hl]
  simp only [Option.bind_some]
  rcases idx_but l r.2.1 0 with ⟨g1, g2⟩ | ⟨m, g1, g2, g3⟩
  · have : idx (fun y => decide (y = r.2.1)) l = -1 := g1
    rw [this, g2]; rfl
  · have e : idx (fun y => decide (y = r.2.1)) l = (m : Int) := by have := g2; rw [Nat.zero_add] at this; exact this
    have ne : (((m : Nat) : Int) == (-1 : Int)) = false := by simp
    rw [e, ne, cond_false, wrap_succ g1 (by omega), loop (l.drop (m + 1)) n (m + 1) m l rfl (by omega) (by omega) (by simp; omega) hl, g3]

theorem grow_loop {α β : Type} (l : List α) (f : α → List β → List β) (hf : ∀ x s, (f x s).length ≤ s.length + 1) (L : Nat → Nat → List β → Option (List β)) (hexit : ∀ j s, L (j + 1) l.length s = some s)
    (hstep : ∀ j k s (h : k < l.length), s.length ≤ k → L (j + 1) k s = L j (k + 1) (f l[k] s)) : ∀ (t : List α) (j k : Nat) (s : List β), l.drop k = t → k ≤ l.length → t.length < j → s.length ≤ k → L j k s = some (t.foldl (fun s x => f x s) s)
  | [], j + 1, k, s, hd, hk, _, hs => by
    have : k = l.length := by
      rcases Nat.lt_or_ge k l.length with h' | h'
      · rw [List.drop_eq_getElem_cons h'] at hd; cases hd
      · omega
    subst this; rw [hexit]; rfl
  | x :: t, j + 1, k, s, hd, hk, hj, hs => by
    obtain ⟨h2, h3, h4⟩ := drop_cons hd x
    have hx : l[k] = x := by simpa [List.getD, h2] using h3
    have := hf x s
    rw [hstep j k s h2 hs, hx, grow_loop l f hf L hexit hstep t j (k + 1) _ h4 (by omega) (by simp at hj; omega) (by omega)]
    rfl
def opn (r : T_Rec) (s : List Int) : List Int := if r.1 = 1 then (if has s r.2.1 = true then s else s ++ [r.2.1]) else if r.1 = 3 ∨ r.1 = 4 then but s r.2.1 else s
theorem opn_len (r : T_Rec) (s : List Int) : (opn r s).length ≤ s.length + 1 := by
  have := but_len s r.2.1
  unfold opn
  split
  · split
    · omega
    · simp
  · split
    · omega
    · omega
def cOpen (l : List T_Rec) : List Int := l.foldl (fun s r => opn r s) []
theorem spec_Open_ok : EV fun n => ∀ l : T_RecS, l.length ≤ 1048576 → spec_Open n l = some (cOpen l) := (spec_l07Has_ok.and (spec_l07But_ok.and (EV.gt 1048578))).up fun n ⟨h1, h2, hn⟩ l hl => by
  rw [spec_Open]
  refine grow_loop l opn opn_len (fun j k s => spec_Open_L1 n j l (l.length : Int) (k : Int) s) (fun j s => by simp only [spec_Open_L1, lt_cast, Nat.lt_irrefl, decide_false, cond_false]) (fun j k s hk hs => ?_) l n 0 [] rfl (by omega) (by omega) (by simp)
  have hr : ∀ v : Int, room (s.length + [v].length) 8 = true := fun v => room8 (by simp; omega)
  simp only [spec_Open_L1, lt_cast, decide_eq_true hk, inR_true hk, Int.toNat_natCast, getD_at hk, cond_true, wrap_succ hk (by omega), int_beq, hr]
  generalize l[k] = r
  have b1 := h1 s r.2.1 (by omega)
  have b2 := h2 s r.2.1 (by omega)
  by_cases c1 : r.1 = 1
  · simp only [c1, decide_true, cond_true, b1, Option.bind_some, show decide ((1 : Int) = 3) = false from rfl, show decide ((1 : Int) = 4) = false from rfl, cond_false]
    unfold opn
    rw [if_pos c1]
    cases hh : has s r.2.1 <;> simp
  · by_cases c3 : r.1 = 3
    · have : opn r s = but s r.2.1 := by unfold opn; rw [if_neg c1, if_pos (.inl c3)]
      simp only [c3, show decide ((3 : Int) = 1) = false from rfl, decide_true, cond_true, cond_false, b2, Option.bind_some, this]
    · by_cases c4 : r.1 = 4
      · have : opn r s = but s r.2.1 := by unfold opn; rw [if_neg c1, if_pos (.inr c4)]
        simp only [c4, show decide ((4 : Int) = 1) = false from rfl, show decide ((4 : Int) = 3) = false from rfl, decide_true, cond_true, cond_false, b2, Option.bind_some, this]
      · have : opn r s = s := by unfold opn; rw [if_neg c1, if_neg (fun h => h.elim c3 c4)]
        simp only [c1, c3, c4, decide_false, cond_false, this]
theorem hasI_ok : EV fun n => ∀ (l : List Int) (x : Int), l.length ≤ 1048576 → slices_Contains_int_int n l x = some (has l x) := ((EV.gt 1048578).up (q := fun n => ∀ (l : List Int) (x : Int), l.length ≤ 1048576 → slices_Index_int_int n l x = some (idx (fun y => decide (y = x)) l)) fun n hn l x hl => by
    rw [slices_Index_int_int]
    refine find_loop (fun y => decide (y = x)) l (fun j k => slices_Index_int_int_L1 n j l x (l.length : Int) (k : Int)) (fun j => by simp only [slices_Index_int_int_L1, lt_cast, Nat.lt_irrefl, decide_false, cond_false]) (fun j k hk => ?_) l n 0 rfl (by omega) (by omega)
    simp only [slices_Index_int_int_L1, lt_cast, decide_eq_true hk, inR_true hk, Int.toNat_natCast, getD_at hk, cond_true, wrap_succ hk (by omega), int_beq, bif_step']
    by_cases h : l[k] = x
    · simp [h]
    · simp [h, show ¬ (x = l[k]) from fun e => h e.symm]).up fun n h l x hl => by
  simp only [slices_Contains_int_int, h l x hl, Option.bind_some]
  exact congrArg some (idx_any _ l 0)
theorem impl_Open_ok : EV fun n => ∀ l : T_RecS, l.length ≤ 1048576 → impl_Open n l = some (cOpen l) := (hasI_ok.and (openDel_ok.and (EV.gt 1048578))).up fun n ⟨h1, h2, hn⟩ l hl => by
  rw [impl_Open]
  refine grow_loop l opn opn_len (fun j k s => impl_Open_L1 n j l (l.length : Int) (k : Int) s) (fun j s => by simp only [impl_Open_L1, lt_cast, Nat.lt_irrefl, decide_false, cond_false]) (fun j k s hk hs => ?_) l n 0 [] rfl (by omega) (by omega) (by simp)
  have hr : ∀ v : Int, room (s.length + [v].length) 8 = true := fun v => room8 (by simp; omega)
  simp only [impl_Open_L1, lt_cast, decide_eq_true hk, inR_true hk, Int.toNat_natCast, getD_at hk, cond_true, wrap_succ hk (by omega), int_beq, hr]
  generalize l[k] = r
  have b1 := h1 s r.2.1 (by omega)
  have b2 := h2 s r (by omega)
  by_cases c1 : r.1 = 1
  · simp only [c1, decide_true, cond_true, b1, Option.bind_some]
    unfold opn
    rw [if_pos c1]
    cases hh : has s r.2.1 <;> simp
  · by_cases c3 : r.1 = 3
    · have : opn r s = but s r.2.1 := by unfold opn; rw [if_neg c1, if_pos (.inl c3)]
      rw [this]
      simp only [decide_eq_false c1, decide_eq_true c3, cond_true, cond_false, b2, Option.bind_some]
    · by_cases c4 : r.1 = 4
      · have : opn r s = but s r.2.1 := by unfold opn; rw [if_neg c1, if_pos (.inr c4)]
        rw [this]
        simp only [decide_eq_false c1, decide_eq_false c3, decide_eq_true c4, cond_true, cond_false, b2, Option.bind_some]
      · have : opn r s = s := by unfold opn; rw [if_neg c1, if_neg (fun h => h.elim c3 c4)]
        simp only [decide_eq_false c1, decide_eq_false c3, decide_eq_false c4, cond_false, this]
theorem markRecS_some : EV fun n => ∀ (x : T_RecS), sm_RecS 1048576 x → ∃ (k : Int) (l : T_RecS), laws_markRecS_o n x 1 = some (k, (l, ())) ∧ 0 ≤ k := (markText_ok.and (markValS_ok.and (markColS_ok.and (markStringS_ok.and (EV.gt 1048578))))).up fun n ⟨hx, hv, hc, hk, hn⟩ x hs => by
  have hl := hs.1
  rw [laws_markRecS_o]
  have loop : ∀ (m j i : Nat) (k : Int) (l : T_RecS), l.length = x.length → i + m = x.length → m < j → l.drop i = x.drop i → 0 ≤ k → k ≤ 1 + 15000000 * (i : Int) → ∃ (k2 : Int) (l' : T_RecS), laws_markRecS_o_L1 n j k (i : Int) l = some (k2, (l', ())) ∧ 0 ≤ k2 := by
    intro m
    induction m with
    | zero =>
      intro j i k l h1 h2 h3 h4 h5 h6
      obtain ⟨j, rfl⟩ : ∃ j', j = j' + 1 := ⟨j - 1, by omega⟩
      have : decide ((i : Int) < (l.length : Int)) = false := decide_eq_false (by omega)
      simp only [laws_markRecS_o_L1, this, cond_false]
      exact ⟨_, _, rfl, h5⟩
    | succ m ih =>
      intro j i k l h1 h2 h3 h4 h5 h6
      obtain ⟨j, rfl⟩ : ∃ j', j = j' + 1 := ⟨j - 1, by omega⟩
      have hi : i < l.length := by omega
      have hp : sm_Rec 1048576 l[i] := by
        have : l[i] = x[i] := by
          have e := congrArg (fun q : T_RecS => q[0]?) h4
          simp only [List.getElem?_drop, Nat.add_zero] at e
          rw [List.getElem?_eq_getElem hi, List.getElem?_eq_getElem (show i < x.length by omega)] at e
          exact Option.some.inj e
        rw [this]; exact hs.2 _ (List.getElem_mem _)
      have hnext := fun (k' : Int) (y : T_Rec) (g1 : 0 ≤ k') (g2 : k' ≤ k + 15000000) => ih j (i + 1) k' (l.set i y) (by simpa using h1) (by omega) (by omega) (by
        rw [List.drop_set_of_lt (by omega), ← List.drop_drop, ← List.drop_drop, h4]) g1 (by omega)
      have b1 := mb_ValS hp.2.1
      have b2 := mb_ValS (x := l[i].2.2.2.2.2.1) hp.2.2.1
      have b3 := mb_ColS hp.2.2.2.2.1
      have b4 := mb_StringS hp.2.2.2.2.2.1
      have hb : (i : Int) ≤ 1048576 := by omega
      have t1 := hx (k + 1 + 1 + 1) (by omega)
      have e1 := hv l[i].2.2.2.2.1 (k + 1 + 1 + 1 + 1) hp.2.1 (by omega) (by simp only [markMax]; omega)
      have e2 := hv l[i].2.2.2.2.2.1 (k + 1 + 1 + 1 + 1 + (mc_ValS l[i].2.2.2.2.1 : Int)) hp.2.2.1 (by omega) (by simp only [markMax]; omega)
      have t2 := hx (k + 1 + 1 + 1 + 1 + (mc_ValS l[i].2.2.2.2.1 : Int) + (mc_ValS l[i].2.2.2.2.2.1 : Int) + 1) (by omega)
      have e3 := hc l[i].2.2.2.2.2.2.2.2.1 (k + 1 + 1 + 1 + 1 + (mc_ValS l[i].2.2.2.2.1 : Int) + (mc_ValS l[i].2.2.2.2.2.1 : Int) + 1 + 1) hp.2.2.2.2.1 (by omega) (by simp only [markMax]; omega)
      have e4 := hk l[i].2.2.2.2.2.2.2.2.2.1 (k + 1 + 1 + 1 + 1 + (mc_ValS l[i].2.2.2.2.1 : Int) + (mc_ValS l[i].2.2.2.2.2.1 : Int) + 1 + 1 + (mc_ColS l[i].2.2.2.2.2.2.2.2.1 : Int)) hp.2.2.2.2.2.1 (by omega) (by simp only [markMax]; omega)
      have t3 := hx (k + 1 + 1 + 1 + 1 + (mc_ValS l[i].2.2.2.2.1 : Int) + (mc_ValS l[i].2.2.2.2.2.1 : Int) + 1 + 1 + (mc_ColS l[i].2.2.2.2.2.2.2.2.1 : Int) + (mc_StringS l[i].2.2.2.2.2.2.2.2.2.1 : Int)) (by omega)
      have t4 := hx (k + 1 + 1 + 1 + 1 + (mc_ValS l[i].2.2.2.2.1 : Int) + (mc_ValS l[i].2.2.2.2.2.1 : Int) + 1 + 1 + (mc_ColS l[i].2.2.2.2.2.2.2.2.1 : Int) + (mc_StringS l[i].2.2.2.2.2.2.2.2.2.1 : Int) + 1) (by omega)
      simp only [laws_markRecS_o_L1, lt_cast, decide_eq_true hi, inR_true hi, cond_true, Int.toNat_natCast, wrap_succ hi (by omega)]
      simp (disch := omega) only [wrapk, List.length_set, getD_at hi, setAt, inR_true hi, cond_true, List.set_set, t1, e1, e2, t2, e3, e4, t3, t4, Option.bind_some]
      exact hnext _ _ (by omega) (by omega)
  exact loop x.length n 0 1 x rfl (by omega) (by omega) rfl (by omega) (by omega)
theorem cOpen_len (l : List T_Rec) : (cOpen l).length ≤ l.length := by
  have : ∀ (l : List T_Rec) (s : List Int), (l.foldl (fun s r => opn r s) s).length ≤ s.length + l.length := by
    intro l
    induction l with
    | nil => intro s; simp
    | cons r l ih =>
      intro s
      have h1 := ih (opn r s)
      have h2 := opn_len r s
      simp only [List.foldl_cons, List.length_cons]; omega
  have := this l []
  simpa [cOpen] using this
theorem same_Open : EV fun n => ∀ (x0 : T_RecS), sm_RecS 1048576 x0 → ∃ r, spec_Open n x0 = some r ∧ impl_Open n x0 = some r ∧ sm_IntS 1048576 r := (spec_Open_ok.and impl_Open_ok).mono fun n ⟨h1, h2⟩ x hx => ⟨_, h1 x hx.1, h2 x hx.1, ⟨by have := cOpen_len x; have := hx.1; omega, fun _ _ => trivial⟩⟩
theorem law_Open : EV fun n => ∀ (x0 : T_RecS), sm_RecS 140737488355328 x0 → laws_FnExactOpen n x0 = some true := ((eqIntS_ok.and (eqRecS_ok.and (toRecS_ok.and (szRecS_ok.and (markIntS_ok.and (markRecS_some.and (heldIntS_ok.and same_Open)))))))).up fun n h x0 w0 => by
  rw [laws_FnExactOpen]
  refine law_sz (h.2.2.2.1 x0 (1048576 : Int) w0 (by decide) (by decide)) (by decide) (by decide) fun c0 l0 g0 g1 => ?_
  have s0 := cost_sm_RecS (k := 1048576) c0
  have t0 := h.2.2.1 x0 s0
  have q0 := h.2.1 x0 x0 s0
  obtain ⟨r, e1, e2, z0⟩ := h.2.2.2.2.2.2.2 x0 s0
  have u0 := h.1 r r z0
  obtain ⟨k0, l1, m00, k1⟩ := h.2.2.2.2.2.1 x0 s0
  have d00 : decide (k0 < 0) = false := decide_eq_false (by omega)
  have b1 := mb_IntS z0
  have m10 := h.2.2.2.2.1 r ((1 : Int)) z0 (by omega) (by simp only [markMax]; omega)
  have n10 := h.2.2.2.2.2.2.1 r ((1 : Int)) z0 (by omega) (by simp only [markMax]; omega)
  have d10 : decide ((1 : Int) + (mc_IntS r : Int) < 0) = false := decide_eq_false (by omega)
  simp only [t0, q0, e1, e2, u0, m00, d00, m10, n10, d10, Option.bind_some, decide_true, Bool.not_true, Bool.not_false, Bool.or_false, Bool.false_or, bne_self_eq_false, BEq.rfl, cond_true, cond_false]
end Go.Proofs.Ytmkiekipgfmggaa.Ev

/- Words for the plain laws: what holds from some fuel on; steps of loops over lists; texts as lists of bytes. -/
import Derived.Test.YtjopjjmhpadncaaEvFnFnExactRowsDdl
import Derived.Test.YtjopjjmhpadncaaEvLaw
set_option linter.all false
namespace Go.Proofs.Ytjopjjmhpadncaa.Ev
open Go
set_option linter.unusedVariables false
/-- from some fuel on -/
def EV (p : Nat → Prop) : Prop := ∃ N, ∀ n, N ≤ n → p n
theorem EV.and {p q : Nat → Prop} (h1 : EV p) (h2 : EV q) : EV fun n => p n ∧ q n := by
  obtain ⟨N, h1⟩ := h1; obtain ⟨M, h2⟩ := h2
  exact ⟨max N M, fun n hn => ⟨h1 n (by omega), h2 n (by omega)⟩⟩
theorem EV.mono {p q : Nat → Prop} (h : EV p) (hpq : ∀ n, p n → q n) : EV q := by
  obtain ⟨N, h⟩ := h; exact ⟨N, fun n hn => hpq n (h n hn)⟩
theorem EV.gt (k : Nat) : EV fun n => k < n := ⟨k + 1, fun n hn => hn⟩
theorem EV.true : EV fun _ => True := ⟨0, fun _ _ => trivial⟩
theorem EV.of {p : Nat → Prop} (h : ∀ n, p n) : EV p := ⟨0, fun n _ => h n⟩
/-- one call deeper -/
theorem EV.up {p q : Nat → Prop} (h : EV p) (hpq : ∀ n, p n → q (n + 1)) : EV q := by
  obtain ⟨N, h⟩ := h
  refine ⟨N + 1, fun n hn => ?_⟩
  obtain ⟨m, rfl⟩ : ∃ m, n = m + 1 := ⟨n - 1, by omega⟩
  exact hpq m (h m (by omega))
theorem EV.all {α : Type} {p : α → Nat → Prop} : ∀ {l : List α}, (∀ x ∈ l, EV (p x)) → EV fun n => ∀ x ∈ l, p x n
  | [], _ => ⟨0, by simp⟩
  | a :: l, h => ((h a (List.mem_cons_self ..)).and (EV.all fun x hx => h x (List.mem_cons_of_mem _ hx))).mono fun n hn x hx => by
      rcases List.mem_cons.mp hx with rfl | hx
      · exact hn.1
      · exact hn.2 x hx
/-! ### whole numbers -/
theorem wrap64 {x : Int} (h1 : -9223372036854775808 ≤ x) (h2 : x ≤ 9223372036854775807) : IntKind.wrap .i64 x = x := by
  have e : IntKind.wrap .i64 x = (if x % 18446744073709551616 ≥ 9223372036854775808 then x % 18446744073709551616 - 18446744073709551616 else x % 18446744073709551616) := by
    simp [IntKind.wrap, IntKind.bits, IntKind.signed]
  rw [e]; split <;> omega
theorem inR_nat {k n : Nat} : inR (k : Int) n = decide (k < n) := by simp [inR]
theorem inR_true {k n : Nat} (h : k < n) : inR (k : Int) n = true := by simp [inR_nat, h]
theorem wrap_succ {k n : Nat} (h : k < n) (hn : n < 4611686018427387904) : IntKind.wrap .i64 ((k : Int) + (1 : Int)) = ((k + 1 : Nat) : Int) := by
  rw [wrap64] <;> omega
theorem lt_cast {k n : Nat} : (decide ((k : Int) < (n : Int))) = decide (k < n) := by simp
theorem getD_at {α : Type} {l : List α} {k : Nat} {z : α} (h : k < l.length) : l.getD k z = l[k] := by simp [List.getD, h]
theorem int_beq (a b : Int) : (a == b) = decide (a = b) := by by_cases h : a = b <;> simp [h]
theorem int_bne (a b : Int) : (a != b) = !decide (a = b) := by by_cases h : a = b <;> simp [bne, h]
/-! ### texts -/
theorem data_len (s : ByteArray) : s.data.toList.length = s.size := by rw [Array.length_toList]; rfl
theorem toList_data (s : ByteArray) : s.toList = s.data.toList := by
  have h : ∀ (n i : Nat) (r : List UInt8), s.size - i = n → ByteArray.toList.loop s i r = r.reverse ++ s.data.toList.drop i := by
    intro n
    induction n with
    | zero =>
      intro i r h
      unfold ByteArray.toList.loop
      rw [if_neg (by omega)]
      have : s.data.toList.length ≤ i := by rw [data_len]; omega
      simp [List.drop_eq_nil_of_le this]
    | succ n ih =>
      intro i r h
      unfold ByteArray.toList.loop
      rw [if_pos (by omega), ih (i + 1) _ (by omega)]
      have hi : i < s.data.toList.length := by rw [data_len]; omega
      rw [List.drop_eq_getElem_cons hi]
      have : s.get! i = s.data.toList[i] := by
        have hi' : i < s.data.size := by simpa using hi
        rw [ByteArray.get!, Array.getElem!_eq_getD]
        simp only [Array.getD, hi', dite_true]
        rfl
      simp [this]
  simpa [ByteArray.toList] using h s.size 0 [] (by omega)
theorem text_ext {a b : ByteArray} (h : a.data.toList = b.data.toList) : a = b := by
  obtain ⟨⟨a⟩⟩ := a; obtain ⟨⟨b⟩⟩ := b; simpa using h
theorem text_eq (a b : ByteArray) : (a.toList == b.toList) = decide (a = b) := by
  rw [toList_data, toList_data]
  by_cases h : a = b
  · subst h; simp
  · have : ¬ a.data.toList = b.data.toList := fun e => h (text_ext e)
    rw [decide_eq_false h]; exact beq_eq_false_iff_ne.mpr this
theorem text_eq' (a b : ByteArray) : (a.toList = b.toList) = (a = b) := by
  rw [toList_data, toList_data]
  exact propext ⟨text_ext, fun h => by rw [h]⟩
/-! ### loops over lists -/
theorem drop_cons {α : Type} {l : List α} {k : Nat} {x : α} {t : List α} (h : l.drop k = x :: t) (z : α) : k < l.length ∧ l.getD k z = x ∧ l.drop (k + 1) = t := by
  have hk : k < l.length := by
    rcases Nat.lt_or_ge k l.length with h' | h'
    · exact h'
    · rw [List.drop_eq_nil_of_le h'] at h; cases h
  rw [List.drop_eq_getElem_cons hk] at h
  obtain ⟨h1, h2⟩ := List.cons.inj h
  exact ⟨hk, by simp [List.getD, hk, h1], h2⟩
/-- a loop that goes along a list -/
theorem along {α S T : Type} (l : List α) (L : Nat → Nat → S → T) (G : List α → S → T) (hnil : ∀ j s, L (j + 1) l.length s = G [] s)
    (hcons : ∀ j k x t s, l.drop k = x :: t → k < l.length → (∀ s, L j (k + 1) s = G t s) → L (j + 1) k s = G (x :: t) s) :
    ∀ (t : List α) (j k : Nat) (s : S), l.drop k = t → k ≤ l.length → t.length < j → L j k s = G t s
  | [], j + 1, k, s, hd, hk, _ => by
    have : k = l.length := by
      rcases Nat.lt_or_ge k l.length with h' | h'
      · rw [List.drop_eq_getElem_cons h'] at hd; cases hd
      · omega
    subst this; exact hnil j s
  | x :: t, j + 1, k, s, hd, hk, hj => by
    have h := drop_cons hd x
    exact hcons j k x t s hd h.1 fun s => along l L G hnil hcons t j (k + 1) s h.2.2 (by omega) (by simp at hj; omega)
theorem along0 {α S T : Type} (l : List α) (L : Nat → Nat → S → T) (G : List α → S → T) {j : Nat} (hj : l.length < j) (s : S) (hnil : ∀ j s, L (j + 1) l.length s = G [] s)
    (hcons : ∀ j k x t s, l.drop k = x :: t → k < l.length → (∀ s, L j (k + 1) s = G t s) → L (j + 1) k s = G (x :: t) s) : L j 0 s = G l s :=
  along l L G hnil hcons l j 0 s rfl (by omega) hj
theorem set_take {α : Type} {s : List α} {k : Nat} {x : α} (h : k < s.length) (t : List α) : (s.set k x).take (k + 1) ++ t = s.take k ++ x :: t := by
  induction s generalizing k with
  | nil => simp at h
  | cons a s ih =>
    cases k with
    | zero => simp
    | succ k => simp at h; simp [ih h]
/-- a list is written anew, place by place -/
theorem copy_loop {α β : Type} (l : List α) (f : α → β) (L : Nat → Nat → List β → Option (List β)) (hexit : ∀ j s, L (j + 1) l.length s = some s)
    (hstep : ∀ j k s (h : k < l.length), s.length = l.length → L (j + 1) k s = L j (k + 1) (s.set k (f l[k]))) : ∀ (t : List α) (j k : Nat) (s : List β), l.drop k = t → k ≤ l.length → t.length < j → s.length = l.length → L j k s = some (s.take k ++ t.map f)
  | [], j + 1, k, s, hd, hk, _, hs => by
    have : k = l.length := by
      rcases Nat.lt_or_ge k l.length with h' | h'
      · rw [List.drop_eq_getElem_cons h'] at hd; cases hd
      · omega
    subst this
    rw [hexit, List.take_of_length_le (by omega)]; simp
  | x :: t, j + 1, k, s, hd, hk, hj, hs => by
    obtain ⟨h1, h2, h3⟩ := drop_cons hd x
    rw [hstep j k s h1 hs, copy_loop l f L hexit hstep t j (k + 1) _ h3 (by omega) (by simp at hj; omega) (by simpa using hs)]
    have hx : l[k] = x := by simpa [List.getD, h1] using h2
    rw [set_take (by omega), hx]; rfl
theorem copy_loop0 {α β : Type} (l : List α) (f : α → β) (L : Nat → Nat → List β → Option (List β)) {j : Nat} {s : List β} (hj : l.length < j) (hs : s.length = l.length) (hexit : ∀ j s, L (j + 1) l.length s = some s)
    (hstep : ∀ j k s (h : k < l.length), s.length = l.length → L (j + 1) k s = L j (k + 1) (s.set k (f l[k]))) : L j 0 s = some (l.map f) := by
  rw [copy_loop l f L hexit hstep l j 0 s rfl (by omega) hj hs]; simp
theorem bt_at {s : ByteArray} {k : Nat} (h : k < s.size) : bt s (k : Int) = ((s.data.toList[k]'(by rw [data_len]; exact h)).toNat : Int) := by
  simp only [bt, Int.toNat_natCast, h, dite_true]; rfl
theorem bt_drop {s : ByteArray} {k : Nat} {x : UInt8} {t : List UInt8} (h : s.data.toList.drop k = x :: t) : k < s.size ∧ bt s (k : Int) = (x.toNat : Int) := by
  obtain ⟨h1, h2, _⟩ := drop_cons h x
  have h3 : k < s.size := by rw [← data_len]; exact h1
  refine ⟨h3, ?_⟩
  rw [bt_at h3]
  rw [getD_at h1] at h2; rw [h2]
/-- a loop along a text -/
theorem alongT {S T : Type} (s : ByteArray) (L : Nat → Nat → S → T) (G : List UInt8 → S → T) (hnil : ∀ j st, L (j + 1) s.size st = G [] st)
    (hcons : ∀ j k x t st, s.data.toList.drop k = x :: t → k < s.size → bt s (k : Int) = (x.toNat : Int) → (∀ st, L j (k + 1) st = G t st) → L (j + 1) k st = G (x :: t) st) {j : Nat} (hj : s.size < j) (st : S) : L j 0 st = G s.data.toList st := by
  refine along0 s.data.toList L G (by rw [data_len]; exact hj) st (fun j st => by rw [data_len]; exact hnil j st) fun j k x t st hd hk ih => ?_
  obtain ⟨h1, h2⟩ := bt_drop hd
  exact hcons j k x t st hd h1 h2 ih
/-! ### sizes -/
def szR (c : Nat) (l : Int) : Int := if l < c then -1 else l - c
def big : Int := 1152921504606846976
theorem sz_str {r : Int → Option Int} {l : Int} {m c : Nat} (h0 : 0 ≤ l) (h1 : l ≤ big) (hm : (m : Int) ≤ big) (h : ∀ l', 0 ≤ l' → l' ≤ big → r l' = some (szR c l')) :
    (let v : Int := IntKind.wrap .i64 (l - (m : Int)); bif decide (v < (0 : Int)) then some (-1 : Int) else r v) = some (szR (m + c) l) := by
  simp only [big] at *
  rw [wrap64 (by omega) (by omega)]
  by_cases hl : l - (m : Int) < 0
  · rw [decide_eq_true hl, cond_true, szR, if_pos (by omega)]
  · rw [decide_eq_false hl, cond_false, h _ (by omega) (by omega)]
    simp only [szR]
    congr 1
    split <;> split <;> omega
theorem sz_call {r : Int → Option Int} {f : Option Int} {l : Int} {m c : Nat} (h0 : 0 ≤ l) (h1 : l ≤ big) (hf : f = some (szR m l)) (h : ∀ l', 0 ≤ l' → l' ≤ big → r l' = some (szR c l')) :
    (f.bind fun v => bif decide (v < (0 : Int)) then some (-1 : Int) else r v) = some (szR (m + c) l) := by
  rw [hf, Option.bind_some]
  by_cases hl : l < m
  · have : szR m l = -1 := if_pos hl
    rw [this, decide_eq_true (by omega), cond_true, szR, if_pos (by omega)]
  · have : szR m l = l - m := if_neg hl
    rw [this, decide_eq_false (by omega), cond_false, h _ (by omega) (by omega)]
    simp only [szR]
    congr 1
    split <;> split <;> omega
theorem sz_end {l : Int} (h0 : 0 ≤ l) : some l = some (szR 0 l) := by simp only [szR]; rw [if_neg (by omega)]; simp
theorem sz_loop {α : Type} (l : List α) (c : α → Nat) (L : Nat → Nat → Int → Option Int) (hexit : ∀ j s, L (j + 1) l.length s = some s)
    (hstep : ∀ j k s (h : k < l.length), 0 ≤ s → s ≤ big → L (j + 1) k s = if s < (c l[k] : Int) then some (-1) else L j (k + 1) (s - (c l[k] : Int))) :
    ∀ (t : List α) (j k : Nat) (s : Int), l.drop k = t → k ≤ l.length → t.length < j → 0 ≤ s → s ≤ big → L j k s = some (szR (t.map c).sum s)
  | [], j + 1, k, s, hd, hk, _, h0, h1 => by
    have : k = l.length := by
      rcases Nat.lt_or_ge k l.length with h' | h'
      · rw [List.drop_eq_getElem_cons h'] at hd; cases hd
      · omega
    subst this
    rw [hexit]; exact sz_end h0
  | x :: t, j + 1, k, s, hd, hk, hj, h0, h1 => by
    obtain ⟨h2, h3, h4⟩ := drop_cons hd x
    have hx : l[k] = x := by simpa [List.getD, h2] using h3
    rw [hstep j k s h2 h0 h1, hx]
    simp only [List.map_cons, List.sum_cons]
    split
    · rw [szR, if_pos (by omega)]
    · rw [sz_loop l c L hexit hstep t j (k + 1) _ h4 (by omega) (by simp at hj; omega) (by omega) (by omega)]
      simp only [szR]
      congr 1
      split <;> split <;> omega
theorem le_sum {α : Type} {f : α → Nat} : ∀ {l : List α} {x : α}, x ∈ l → f x ≤ (l.map f).sum
  | a :: l, x, h => by
    simp only [List.map_cons, List.sum_cons]
    rcases List.mem_cons.mp h with rfl | h
    · omega
    · have := le_sum (f := f) h; omega
theorem szR_step {c : Nat} {s : Int} (R : Int → Option Int) (b : Option Int) (h0 : 0 ≤ s) : (bif decide (szR c s < 0) then b else R (szR c s)) = if s < (c : Int) then b else R (s - (c : Int)) := by
  by_cases h : s < (c : Int)
  · have : szR c s = -1 := if_pos h
    rw [this, if_pos h]; rfl
  · have : szR c s = s - c := if_neg h
    rw [this, if_neg h, decide_eq_false (by omega)]; rfl
theorem eq_step {α : Type} [DecidableEq α] (x y : α) (R : Option Bool) : (bif !decide (x = y) then some false else R) = if x = y then R else some false := by
  by_cases h : x = y <;> simp [h]
theorem eq_step2 (x y : Int) (R : Option Bool) : (bif x != y then some false else R) = if x = y then R else some false := by
  by_cases h : x = y
  · subst h; simp
  · rw [if_neg h, show (x != y) = true by simpa using h]; rfl
theorem eq_step3 (x y : Bool) (R : Option Bool) : (bif !(x == y) then some false else R) = if x = y then R else some false := by
  cases x <;> cases y <;> rfl
theorem eq_last {p : Prop} [Decidable p] : (if p then some true else some false) = some (decide p) := by by_cases h : p <;> simp [h]
theorem eq_and {p q : Prop} [Decidable p] [Decidable q] : (if p then some (decide q) else some false) = some (decide (p ∧ q)) := by by_cases h : p <;> simp [h]
theorem str_step {c : Nat} {s : Int} (a b : Option Int) : (bif decide (s - (c : Int) < 0) then a else b) = if s < (c : Int) then a else b := by
  by_cases h : s < (c : Int)
  · rw [if_pos h, decide_eq_true (by omega)]; rfl
  · rw [if_neg h, decide_eq_false (by omega)]; rfl
theorem eq_end : ∀ b : Bool, (bif !b then some false else some true) = some b := by intro b; cases b <;> rfl
theorem bif_ite {α : Type} {p : Prop} [Decidable p] {q : Prop} [Decidable q] (h : p ↔ q) (a b : α) : (bif decide p then a else b) = if q then a else b := by
  by_cases hp : p <;> simp [hp, h.mp, ← h]
/-! ### lists compared -/
theorem eq_loop {α : Type} [DecidableEq α] (l m : List α) (hlm : l.length = m.length) (L : Nat → Nat → Option Bool) (hexit : ∀ j, L (j + 1) l.length = some true)
    (hstep : ∀ j k (h : k < l.length) (h' : k < m.length), L (j + 1) k = if l[k] = m[k] then L j (k + 1) else some false) :
    ∀ (t : List α) (j k : Nat), l.drop k = t → k ≤ l.length → t.length < j → L j k = some (decide (t = m.drop k))
  | [], j + 1, k, hd, hk, _ => by
    have : k = l.length := by
      rcases Nat.lt_or_ge k l.length with h' | h'
      · rw [List.drop_eq_getElem_cons h'] at hd; cases hd
      · omega
    subst this
    rw [hexit, List.drop_eq_nil_of_le (by omega)]; simp
  | x :: t, j + 1, k, hd, hk, hj => by
    obtain ⟨h2, h3, h4⟩ := drop_cons hd x
    have hx : l[k] = x := by simpa [List.getD, h2] using h3
    rw [hstep j k h2 (by omega), hx, List.drop_eq_getElem_cons (show k < m.length by omega)]
    split
    · rename_i e
      rw [eq_loop l m hlm L hexit hstep t j (k + 1) h4 (by omega) (by simp at hj; omega)]
      congr 1; exact decide_eq_decide.mpr ⟨fun h => by rw [e, h], fun h => (List.cons.inj h).2⟩
    · rename_i e
      congr 1; exact (decide_eq_false fun h => e (List.cons.inj h).1).symm
/-! ### searches -/
def idxFrom {α : Type} (p : α → Bool) : List α → Nat → Int
  | [], _ => -1
  | x :: t, k => if p x = true then (k : Int) else idxFrom p t (k + 1)
def idx {α : Type} (p : α → Bool) (l : List α) : Int := idxFrom p l 0
theorem find_loop {α : Type} (p : α → Bool) (l : List α) (L : Nat → Nat → Option Int) (hexit : ∀ j, L (j + 1) l.length = some (-1))
    (hstep : ∀ j k (h : k < l.length), L (j + 1) k = if p l[k] = true then some (k : Int) else L j (k + 1)) :
    ∀ (t : List α) (j k : Nat), l.drop k = t → k ≤ l.length → t.length < j → L j k = some (idxFrom p t k)
  | [], j + 1, k, hd, hk, _ => by
    have : k = l.length := by
      rcases Nat.lt_or_ge k l.length with h' | h'
      · rw [List.drop_eq_getElem_cons h'] at hd; cases hd
      · omega
    subst this; rw [hexit]; rfl
  | x :: t, j + 1, k, hd, hk, hj => by
    obtain ⟨h2, h3, h4⟩ := drop_cons hd x
    have hx : l[k] = x := by simpa [List.getD, h2] using h3
    rw [hstep j k h2, hx, find_loop p l L hexit hstep t j (k + 1) h4 (by omega) (by simp at hj; omega)]
    simp only [idxFrom]; split <;> rfl
theorem all_loop {α : Type} (p : α → Bool) (l : List α) (L : Nat → Nat → Option Bool) (r : Option Bool) (hexit : ∀ j, L (j + 1) l.length = r)
    (hstep : ∀ j k (h : k < l.length), L (j + 1) k = if p l[k] = true then L j (k + 1) else some false) :
    ∀ (t : List α) (j k : Nat), l.drop k = t → k ≤ l.length → t.length < j → L j k = if t.all p = true then r else some false
  | [], j + 1, k, hd, hk, _ => by
    have : k = l.length := by
      rcases Nat.lt_or_ge k l.length with h' | h'
      · rw [List.drop_eq_getElem_cons h'] at hd; cases hd
      · omega
    subst this; rw [hexit]; rfl
  | x :: t, j + 1, k, hd, hk, hj => by
    obtain ⟨h2, h3, h4⟩ := drop_cons hd x
    have hx : l[k] = x := by simpa [List.getD, h2] using h3
    rw [hstep j k h2, hx, all_loop p l L r hexit hstep t j (k + 1) h4 (by omega) (by simp at hj; omega)]
    by_cases hp : p x = true <;> simp [hp]
theorem bif_step {b : Bool} {α : Type} (x y : α) : (bif !b then y else x) = if b = true then x else y := by cases b <;> rfl
theorem bif_step' {b : Bool} {α : Type} (x y : α) : (bif b then x else y) = if b = true then x else y := by cases b <;> rfl
theorem idx_bound {α : Type} (p : α → Bool) : ∀ (l : List α) (k : Nat), idxFrom p l k = -1 ∨ ((k : Int) ≤ idxFrom p l k ∧ idxFrom p l k < (k + l.length : Nat))
  | [], k => .inl rfl
  | x :: t, k => by
    simp only [idxFrom]
    split
    · right; simp only [List.length_cons]; omega
    · rcases idx_bound p t (k + 1) with h | h
      · exact .inl h
      · right; simp only [List.length_cons]; omega
theorem idx_lt {α : Type} (p : α → Bool) (l : List α) : -1 ≤ idx p l ∧ idx p l < (l.length : Int) := by
  rcases idx_bound p l 0 with h | h
  · unfold idx; rw [h]; omega
  · unfold idx; omega
def allFrom {α : Type} (p : α → Nat → Bool) : List α → Nat → Bool
  | [], _ => true
  | x :: t, k => p x k && allFrom p t (k + 1)
theorem allFrom_loop {α : Type} (p : α → Nat → Bool) (l : List α) (L : Nat → Nat → Option Bool) (r : Option Bool) (hexit : ∀ j, L (j + 1) l.length = r)
    (hstep : ∀ j k (h : k < l.length), L (j + 1) k = if p l[k] k = true then L j (k + 1) else some false) :
    ∀ (t : List α) (j k : Nat), l.drop k = t → k ≤ l.length → t.length < j → L j k = if allFrom p t k = true then r else some false
  | [], j + 1, k, hd, hk, _ => by
    have : k = l.length := by
      rcases Nat.lt_or_ge k l.length with h' | h'
      · rw [List.drop_eq_getElem_cons h'] at hd; cases hd
      · omega
    subst this; rw [hexit]; rfl
  | x :: t, j + 1, k, hd, hk, hj => by
    obtain ⟨h2, h3, h4⟩ := drop_cons hd x
    have hx : l[k] = x := by simpa [List.getD, h2] using h3
    rw [hstep j k h2, hx, allFrom_loop p l L r hexit hstep t j (k + 1) h4 (by omega) (by simp at hj; omega)]
    by_cases hp : p x k = true <;> simp [hp, allFrom]
def runs {α S : Type} (f : α → S → Option S) : List α → S → Option S
  | [], s => some s
  | x :: t, s => (f x s).bind (runs f t)
def after {S T : Type} (o : Option S) (X : T) (R : S → T) : T := match o with
  | some s => R s
  | none => X
theorem run_loop {α S T : Type} (l : List α) (f : α → S → Option S) (L : Nat → Nat → S → T) (R : S → T) (X : T) (Inv : S → Prop) (hinv : ∀ x ∈ l, ∀ s s', Inv s → f x s = some s' → Inv s')
    (hexit : ∀ j s, Inv s → L (j + 1) l.length s = R s) (hstep : ∀ j k s (h : k < l.length), Inv s → L (j + 1) k s = after (f l[k] s) X fun s' => L j (k + 1) s') :
    ∀ (t : List α) (j k : Nat) (s : S), l.drop k = t → k ≤ l.length → t.length < j → Inv s → L j k s = after (runs f t s) X R
  | [], j + 1, k, s, hd, hk, _, hs => by
    have : k = l.length := by
      rcases Nat.lt_or_ge k l.length with h' | h'
      · rw [List.drop_eq_getElem_cons h'] at hd; cases hd
      · omega
    subst this; rw [hexit _ _ hs]; rfl
  | x :: t, j + 1, k, s, hd, hk, hj, hs => by
    obtain ⟨h2, h3, h4⟩ := drop_cons hd x
    have hx : l[k] = x := by simpa [List.getD, h2] using h3
    rw [hstep j k s h2 hs, hx]
    simp only [runs]
    cases hf : f x s with
    | none => rfl
    | some s' => exact run_loop l f L R X Inv hinv hexit hstep t j (k + 1) s' h4 (by omega) (by simp at hj; omega) (hinv x (by rw [← hx]; exact List.getElem_mem h2) s s' hs hf)
theorem allFrom_loopQ {α : Type} (p : α → Nat → Bool) (Q : Nat → Prop) (l : List α) (L : Nat → Nat → Option Bool) (r : Option Bool) (hexit : ∀ j, L (j + 1) l.length = r)
    (hQ : ∀ k (h : k < l.length), Q k → p l[k] k = true → Q (k + 1)) (hstep : ∀ j k (h : k < l.length), Q k → L (j + 1) k = if p l[k] k = true then L j (k + 1) else some false) :
    ∀ (t : List α) (j k : Nat), l.drop k = t → k ≤ l.length → t.length < j → Q k → L j k = if allFrom p t k = true then r else some false
  | [], j + 1, k, hd, hk, _, _ => by
    have : k = l.length := by
      rcases Nat.lt_or_ge k l.length with h' | h'
      · rw [List.drop_eq_getElem_cons h'] at hd; cases hd
      · omega
    subst this; rw [hexit]; rfl
  | x :: t, j + 1, k, hd, hk, hj, hq => by
    obtain ⟨h2, h3, h4⟩ := drop_cons hd x
    have hx : l[k] = x := by simpa [List.getD, h2] using h3
    rw [hstep j k h2 hq, hx]
    by_cases hp : p x k = true
    · rw [allFrom_loopQ p Q l L r hexit hQ hstep t j (k + 1) h4 (by omega) (by simp at hj; omega) (hQ k h2 hq (by rw [hx]; exact hp))]
      simp [hp, allFrom]
    · simp [hp, allFrom]
theorem allFrom_iff {α : Type} (p : α → Nat → Bool) : ∀ (l : List α) (k : Nat), allFrom p l k = true ↔ ∀ i (h : i < l.length), p l[i] (k + i) = true
  | [], k => by simp [allFrom]
  | x :: t, k => by
    simp only [allFrom, Bool.and_eq_true, allFrom_iff p t (k + 1)]
    constructor
    · rintro ⟨h1, h2⟩ i hi
      cases i with
      | zero => exact h1
      | succ i => have := h2 i (by simp at hi; omega); rwa [show k + 1 + i = k + (i + 1) by omega] at this
    · intro h
      refine ⟨h 0 (by simp), fun i hi => ?_⟩
      have := h (i + 1) (by simp; omega)
      rwa [show k + (i + 1) = k + 1 + i by omega] at this
theorem map_loop {α β : Type} (l : List α) (g : α → β) (L : Nat → Nat → List β → Option (List β)) (hexit : ∀ j s, L (j + 1) l.length s = some s)
    (hstep : ∀ j k s (h : k < l.length), s.length = k → L (j + 1) k s = L j (k + 1) (s ++ [g l[k]])) : ∀ (t : List α) (j k : Nat) (s : List β), l.drop k = t → k ≤ l.length → t.length < j → s.length = k → L j k s = some (s ++ t.map g)
  | [], j + 1, k, s, hd, hk, _, hs => by
    have : k = l.length := by
      rcases Nat.lt_or_ge k l.length with h' | h'
      · rw [List.drop_eq_getElem_cons h'] at hd; cases hd
      · omega
    subst this; rw [hexit]; simp
  | x :: t, j + 1, k, s, hd, hk, hj, hs => by
    obtain ⟨h2, h3, h4⟩ := drop_cons hd x
    have hx : l[k] = x := by simpa [List.getD, h2] using h3
    rw [hstep j k s h2 hs, hx, map_loop l g L hexit hstep t j (k + 1) _ h4 (by omega) (by simp at hj; omega) (by simp [hs])]
    simp
theorem le_big {l : Int} (h : l ≤ 1048576) : l ≤ big := by simp only [big]; omega
theorem law_sz {r : Int → Option Bool} {f : Option Int} {l : Int} {m : Nat} (hf : f = some (szR m l)) (h0 : 0 ≤ l) (h1 : l ≤ 1048576) (h : m ≤ 1048576 → ∀ l', 0 ≤ l' → l' ≤ 1048576 → r l' = some true) :
    (f.bind fun v => bif decide (v < (0 : Int)) then some true else r v) = some true := by
  rw [hf, Option.bind_some]
  by_cases hl : l < m
  · have : szR m l = -1 := if_pos hl
    rw [this]; rfl
  · have : szR m l = l - m := if_neg hl
    rw [this, decide_eq_false (by omega), cond_false]
    exact h (by omega) _ (by omega) (by omega)
theorem law_str {r : Option Bool} {m : Nat} (h : m ≤ 1048576 → r = some true) : (let v : Bool := decide ((1048576 : Int) < (m : Int)); bif v then some true else r) = some true := by
  by_cases hl : (1048576 : Int) < (m : Int)
  · simp [hl]
  · simp only [decide_eq_false hl, cond_false]; exact h (by omega)
/-! ### marks: what a law writes into a list, and finds there -/
def mkL {E : Type} (mk : Int → E → E) (mc : E → Nat) : Int → List E → List E
  | _, [] => []
  | k, x :: t => mk k x :: mkL mk mc (k + mc x) t
def mcL {E : Type} (mc : E → Nat) : List E → Nat
  | [] => 0
  | x :: t => mc x + mcL mc t
theorem mkL_len {E : Type} (mk : Int → E → E) (mc : E → Nat) : ∀ (l : List E) (k : Int), (mkL mk mc k l).length = l.length
  | [], k => rfl
  | x :: t, k => by simp [mkL, mkL_len mk mc t]
theorem mcL_le {E : Type} {mc : E → Nat} {b : Nat} : ∀ {l : List E}, (∀ x ∈ l, mc x ≤ b) → mcL mc l ≤ l.length * b
  | [], _ => by simp [mcL]
  | x :: t, h => by
    have h1 := h x (List.mem_cons_self ..)
    have h2 := mcL_le (l := t) fun y hy => h y (List.mem_cons_of_mem _ hy)
    simp only [mcL, List.length_cons, Nat.add_mul, Nat.one_mul]
    omega
theorem mcL_le' {E : Type} {mc : E → Nat} {b m c : Nat} {l : List E} (h : ∀ x ∈ l, mc x ≤ b) (hl : l.length ≤ m) (hc : m * b ≤ c) : mcL mc l ≤ c := Nat.le_trans (mcL_le h) (Nat.le_trans (Nat.mul_le_mul_right b hl) hc)
def markMax : Int := 9000000000000000000
theorem mark_loop {E : Type} (mk : Int → E → E) (mc : E → Nat) (P : E → Prop) (F : Nat → Int → Int → List E → Option (Int × (List E × Unit)))
    (hend : ∀ j k (l : List E), F (j + 1) k (l.length : Int) l = some (k, (l, ())))
    (hstep : ∀ j k i (l : List E) (hi : i < l.length), P l[i] → 0 ≤ k → k + mc l[i] ≤ markMax → l.length ≤ 1048577 → F (j + 1) k (i : Int) l = F j (k + mc l[i]) ((i + 1 : Nat) : Int) (l.set i (mk k l[i]))) :
    ∀ (t pre : List E) (j : Nat) (k : Int), t.length < j → (pre ++ t).length ≤ 1048577 → (∀ x ∈ t, P x) → 0 ≤ k → k + mcL mc t ≤ markMax → F j k (pre.length : Int) (pre ++ t) = some (k + mcL mc t, (pre ++ mkL mk mc k t, ()))
  | [], pre, j, k, hj, _, _, _, _ => by
    obtain ⟨j, rfl⟩ : ∃ i, j = i + 1 := ⟨j - 1, by simp at hj; omega⟩
    have := hend j k pre
    simpa [mkL, mcL] using this
  | x :: t, pre, j, k, hj, hl, hP, h0, h1 => by
    obtain ⟨j, rfl⟩ : ∃ i, j = i + 1 := ⟨j - 1, by simp at hj; omega⟩
    have hi : pre.length < (pre ++ x :: t).length := by simp
    have hx : (pre ++ x :: t)[pre.length] = x := by simp
    simp only [mcL] at h1
    have hs := hstep j k pre.length (pre ++ x :: t) hi (by rw [hx]; exact hP x (List.mem_cons_self ..)) h0 (by rw [hx]; omega) hl
    rw [hx] at hs
    have hset : (pre ++ x :: t).set pre.length (mk k x) = (pre ++ [mk k x]) ++ t := by simp
    rw [hs, hset]
    have ih := mark_loop mk mc P F hend hstep t (pre ++ [mk k x]) j (k + mc x) (by simpa using hj) (by simp at hl ⊢; omega) (fun y hy => hP y (List.mem_cons_of_mem _ hy)) (by omega) (by omega)
    rw [show (pre ++ [mk k x]).length = pre.length + 1 by simp] at ih
    rw [ih]
    simp only [mkL, mcL, List.append_assoc, List.singleton_append]
    congr 2
    omega
theorem held_loop {E : Type} (mk : Int → E → E) (mc : E → Nat) (P : E → Prop) (L : List E) (H : Nat → Int → Int → Option Int) (hL : L.length ≤ 1048577)
    (hend : ∀ j k, H (j + 1) k (L.length : Int) = some k)
    (hstep : ∀ j k i x (hi : i < L.length), P x → L[i] = mk k x → 0 ≤ k → k + mc x ≤ markMax → H (j + 1) k (i : Int) = H j (k + mc x) ((i + 1 : Nat) : Int)) :
    ∀ (t pre : List E) (j : Nat) (k : Int), L = pre ++ mkL mk mc k t → t.length < j → (∀ x ∈ t, P x) → 0 ≤ k → k + mcL mc t ≤ markMax → H j k (pre.length : Int) = some (k + mcL mc t)
  | [], pre, j, k, hp, hj, _, _, _ => by
    obtain ⟨j, rfl⟩ : ∃ i, j = i + 1 := ⟨j - 1, by simp at hj; omega⟩
    simp only [mkL, List.append_nil] at hp
    have := hend j k
    rw [hp] at this
    simpa [mcL] using this
  | x :: t, pre, j, k, hp, hj, hP, h0, h1 => by
    obtain ⟨j, rfl⟩ : ∃ i, j = i + 1 := ⟨j - 1, by simp at hj; omega⟩
    simp only [mkL] at hp
    simp only [mcL] at h1
    have hi : pre.length < L.length := by rw [hp]; simp
    have hx : L[pre.length] = mk k x := by simp [hp]
    have hs := hstep j k pre.length x hi (hP x (List.mem_cons_self ..)) hx h0 (by omega)
    rw [hs]
    have ih := held_loop mk mc P L H hL hend hstep t (pre ++ [mk k x]) j (k + mc x) (by rw [hp]; simp) (by simpa using hj) (fun y hy => hP y (List.mem_cons_of_mem _ hy)) (by omega) (by omega)
    rw [show (pre ++ [mk k x]).length = pre.length + 1 by simp] at ih
    rw [ih]
    simp only [mcL]
    congr 1
    omega
theorem wrapk {x : Int} (h0 : 0 ≤ x) (h1 : x ≤ 9223372036854775807) : IntKind.wrap .i64 x = x := wrap64 (by omega) h1
theorem setAt {α : Type} {l : List α} {i : Nat} {x z : α} (h : i < l.length) : (l.set i x).getD i z = x := by simp [List.getD, h]
abbrev T_Val := Int × (Int × (ByteArray))
instance i_Val : DecidableEq T_Val := @instDecidableEqProd _ _ inferInstance (@instDecidableEqProd _ _ inferInstance (inferInstance))
def cost_Val (x : T_Val) : Nat := x.2.2.size + (0)
def sm_Val (k : Nat) (x : T_Val) : Prop := x.2.2.size ≤ k
theorem cost_sm_Val {k : Nat} {x : T_Val} (h : cost_Val x ≤ k) : sm_Val k x := by
  unfold cost_Val at h
  unfold sm_Val
  exact by omega
theorem toVal_ok : EV fun n => ∀ x : T_Val, sm_Val 1048576 x → laws_toVal n x.1 x.2.1 x.2.2 = some x := EV.true.up fun n h x hs => by
  unfold sm_Val at hs
  simp only [laws_toVal, Option.bind_some]
theorem szVal_ok : EV fun n => ∀ (x : T_Val) (l : Int), sm_Val 140737488355328 x → 0 ≤ l → l ≤ big → laws_szVal n x.1 x.2.1 x.2.2 l = some (szR (cost_Val x) l) := EV.true.up fun n h x l0 hs g0 g1 => by
  unfold sm_Val at hs
  rw [laws_szVal]
  unfold cost_Val
  exact sz_str (m := x.2.2.size) g0 g1 (by have := hs; simp only [big]; omega) fun l1 g2 g3 => sz_end g2
theorem eqVal_ok : EV fun n => ∀ (x y : T_Val), sm_Val 1048576 x → laws_eqVal n x.1 x.2.1 x.2.2 y.1 y.2.1 y.2.2 = some (decide (x = y)) := EV.true.up fun n h x y hs => by
  unfold sm_Val at hs
  simp only [laws_eqVal, Option.bind_some, text_eq]
  obtain ⟨x0 , x1 , x2⟩ := x
  obtain ⟨y0 , y1 , y2⟩ := y
  simp only [eq_step, eq_step2, eq_step3, eq_last, eq_and]
  exact congrArg some (decide_eq_decide.mpr (by simp only [Prod.mk.injEq]))
abbrev T_ValS := List T_Val
def cost_ValS (x : T_ValS) : Nat := x.length + (x.map (cost_Val)).sum
def sm_ValS (k : Nat) (l : T_ValS) : Prop := l.length ≤ k ∧ ∀ x ∈ l, sm_Val k x
theorem cost_sm_ValS {k : Nat} {l : T_ValS} (h : cost_ValS l ≤ k) : sm_ValS k l := by
  unfold cost_ValS at h
  unfold sm_ValS
  refine ⟨by omega, fun x hx => ?_⟩
  have := le_sum (f := cost_Val) hx
  exact cost_sm_Val (by omega)
theorem toValS_ok : EV fun n => ∀ l : T_ValS, sm_ValS 1048576 l → laws_toValS n l = some l := (toVal_ok.and (EV.gt 1048576)).up fun n h l hl => by
  have hlen := hl.1
  have hroom : (decide ((l.length : Int) = (l.length : Int) ∧ 0 ≤ (l.length : Int)) && room (l.length : Int).toNat 32) = true := by simp [room]; omega
  rw [laws_toValS, hroom]
  simp only [cond_true]
  refine (copy_loop0 (j := n) l id (fun j k s => laws_toValS_L1 n j l (k : Int) s) (by omega) (by simp) (fun j s => by simp only [laws_toValS_L1, lt_cast, Nat.lt_irrefl, decide_false, cond_false]) (fun j k s hk hs => ?_)).trans (by simp)
  have hks : k < s.length := by omega
  have e : laws_toVal n l[k].1 l[k].2.1 l[k].2.2 = some l[k] := h.1 (l[k]) (hl.2 _ (List.getElem_mem hk))
  simp only [laws_toValS_L1, lt_cast, decide_eq_true hk, inR_true hk, Int.toNat_natCast, getD_at hk, cond_true, wrap_succ hk (by omega), inR_true hks, Option.bind_some, id, e]
theorem szValS_ok : EV fun n => ∀ (l : T_ValS) (s : Int), sm_ValS 140737488355328 l → 0 ≤ s → s ≤ big → laws_szValS n l s = some (szR (cost_ValS l) s) := (szVal_ok.and (EV.gt 140737488355328)).up fun n h l s hl g0 g1 => by
  have hlen := hl.1
  rw [laws_szValS]
  unfold cost_ValS
  refine sz_str (r := fun s => laws_szValS_L1 n n l s (0 : Int)) (m := l.length) g0 g1 (by simp only [big]; omega) fun s g0 g1 => ?_
  refine sz_loop l _ (fun j k s => laws_szValS_L1 n j l s (k : Int)) (fun j s => by simp only [laws_szValS_L1, lt_cast, Nat.lt_irrefl, decide_false, cond_false]) (fun j k s hk h0 h1 => ?_) l n 0 s rfl (by omega) (by omega) g0 g1
  have e : laws_szVal n l[k].1 l[k].2.1 l[k].2.2 s = some (szR (cost_Val l[k]) s) := h.1 (l[k]) s (hl.2 _ (List.getElem_mem hk)) h0 h1
  simp only [laws_szValS_L1, lt_cast, decide_eq_true hk, inR_true hk, Int.toNat_natCast, getD_at hk, cond_true, wrap_succ hk (by omega), e, Option.bind_some]
  exact szR_step (fun s => laws_szValS_L1 n j l s ((k + 1 : Nat) : Int)) _ h0
theorem eqValS_ok : EV fun n => ∀ (l m : T_ValS), sm_ValS 1048576 l → laws_eqValS n l m = some (decide (l = m)) := (eqVal_ok.and (EV.gt 1048576)).up fun n h l m hl => by
  have hlen := hl.1
  rw [laws_eqValS]
  by_cases hlm : l.length = m.length
  · have : ((l.length : Int) != (m.length : Int)) = false := by simp [hlm]
    simp only [this, cond_false]
    refine (eq_loop l m hlm (fun j k => laws_eqValS_L1 n j l m (k : Int)) (fun j => by simp only [laws_eqValS_L1, lt_cast, Nat.lt_irrefl, decide_false, cond_false]) (fun j k hk hk2 => ?_) l n 0 rfl (by omega) (by omega)).trans (by simp)
    have e : laws_eqVal n l[k].1 l[k].2.1 l[k].2.2 m[k].1 m[k].2.1 m[k].2.2 = some (decide (l[k] = m[k])) := h.1 (l[k]) (m[k]) (hl.2 _ (List.getElem_mem hk))
    simp only [laws_eqValS_L1, lt_cast, decide_eq_true hk, inR_true hk, Int.toNat_natCast, getD_at hk, cond_true, wrap_succ hk (by omega), getD_at hk2, inR_true hk2, e, Option.bind_some]
    exact eq_step (l[k]) (m[k]) _
  · have : ((l.length : Int) != (m.length : Int)) = true := by simp; omega
    simp only [this, cond_true]
    congr 1; exact (decide_eq_false fun h => hlm (by rw [h])).symm
abbrev T_Col := ByteArray × (Int × (Bool × (Bool × (T_Val))))
instance i_Col : DecidableEq T_Col := @instDecidableEqProd _ _ inferInstance (@instDecidableEqProd _ _ inferInstance (@instDecidableEqProd _ _ inferInstance (@instDecidableEqProd _ _ inferInstance (inferInstance))))
def cost_Col (x : T_Col) : Nat := x.1.size + (cost_Val x.2.2.2.2 + (0))
def sm_Col (k : Nat) (x : T_Col) : Prop := x.1.size ≤ k ∧ sm_Val k x.2.2.2.2
theorem cost_sm_Col {k : Nat} {x : T_Col} (h : cost_Col x ≤ k) : sm_Col k x := by
  unfold cost_Col at h
  unfold sm_Col
  exact ⟨by omega, cost_sm_Val (by omega)⟩
theorem toCol_ok : EV fun n => ∀ x : T_Col, sm_Col 1048576 x → laws_toCol n x.1 x.2.1 x.2.2.1 x.2.2.2.1 x.2.2.2.2.1 x.2.2.2.2.2.1 x.2.2.2.2.2.2 = some x := (toVal_ok.and EV.true).up fun n h x hs => by
  unfold sm_Col at hs
  have e0 : laws_toVal n x.2.2.2.2.1 x.2.2.2.2.2.1 x.2.2.2.2.2.2 = some x.2.2.2.2 := h.1 x.2.2.2.2 (hs.2)
  simp only [laws_toCol, e0, Option.bind_some]
theorem szCol_ok : EV fun n => ∀ (x : T_Col) (l : Int), sm_Col 140737488355328 x → 0 ≤ l → l ≤ big → laws_szCol n x.1 x.2.1 x.2.2.1 x.2.2.2.1 x.2.2.2.2.1 x.2.2.2.2.2.1 x.2.2.2.2.2.2 l = some (szR (cost_Col x) l) := (szVal_ok.and EV.true).up fun n h x l0 hs g0 g1 => by
  unfold sm_Col at hs
  rw [laws_szCol]
  unfold cost_Col
  exact sz_str (m := x.1.size) g0 g1 (by have := hs.1; simp only [big]; omega) fun l1 g2 g3 => sz_call g2 g3 (h.1 x.2.2.2.2 l1 (hs.2) g2 g3) fun l2 g4 g5 => sz_end g4
theorem eqCol_ok : EV fun n => ∀ (x y : T_Col), sm_Col 1048576 x → laws_eqCol n x.1 x.2.1 x.2.2.1 x.2.2.2.1 x.2.2.2.2.1 x.2.2.2.2.2.1 x.2.2.2.2.2.2 y.1 y.2.1 y.2.2.1 y.2.2.2.1 y.2.2.2.2.1 y.2.2.2.2.2.1 y.2.2.2.2.2.2 = some (decide (x = y)) := (eqVal_ok.and EV.true).up fun n h x y hs => by
  unfold sm_Col at hs
  have e0 : laws_eqVal n x.2.2.2.2.1 x.2.2.2.2.2.1 x.2.2.2.2.2.2 y.2.2.2.2.1 y.2.2.2.2.2.1 y.2.2.2.2.2.2 = some (decide (x.2.2.2.2 = y.2.2.2.2)) := h.1 x.2.2.2.2 y.2.2.2.2 (hs.2)
  simp only [laws_eqCol, e0, Option.bind_some, text_eq]
  obtain ⟨x0 , x1 , x2 , x3 , x4⟩ := x
  obtain ⟨y0 , y1 , y2 , y3 , y4⟩ := y
  simp only [eq_step, eq_step2, eq_step3, eq_last, eq_and]
  exact congrArg some (decide_eq_decide.mpr (by simp only [Prod.mk.injEq]))
abbrev T_ColS := List T_Col
def cost_ColS (x : T_ColS) : Nat := x.length + (x.map (cost_Col)).sum
def sm_ColS (k : Nat) (l : T_ColS) : Prop := l.length ≤ k ∧ ∀ x ∈ l, sm_Col k x
theorem cost_sm_ColS {k : Nat} {l : T_ColS} (h : cost_ColS l ≤ k) : sm_ColS k l := by
  unfold cost_ColS at h
  unfold sm_ColS
  refine ⟨by omega, fun x hx => ?_⟩
  have := le_sum (f := cost_Col) hx
  exact cost_sm_Col (by omega)
theorem toColS_ok : EV fun n => ∀ l : T_ColS, sm_ColS 1048576 l → laws_toColS n l = some l := (toCol_ok.and (EV.gt 1048576)).up fun n h l hl => by
  have hlen := hl.1
  have hroom : (decide ((l.length : Int) = (l.length : Int) ∧ 0 ≤ (l.length : Int)) && room (l.length : Int).toNat 64) = true := by simp [room]; omega
  rw [laws_toColS, hroom]
  simp only [cond_true]
  refine (copy_loop0 (j := n) l id (fun j k s => laws_toColS_L1 n j l (k : Int) s) (by omega) (by simp) (fun j s => by simp only [laws_toColS_L1, lt_cast, Nat.lt_irrefl, decide_false, cond_false]) (fun j k s hk hs => ?_)).trans (by simp)
  have hks : k < s.length := by omega
  have e : laws_toCol n l[k].1 l[k].2.1 l[k].2.2.1 l[k].2.2.2.1 l[k].2.2.2.2.1 l[k].2.2.2.2.2.1 l[k].2.2.2.2.2.2 = some l[k] := h.1 (l[k]) (hl.2 _ (List.getElem_mem hk))
  simp only [laws_toColS_L1, lt_cast, decide_eq_true hk, inR_true hk, Int.toNat_natCast, getD_at hk, cond_true, wrap_succ hk (by omega), inR_true hks, Option.bind_some, id, e]
theorem szColS_ok : EV fun n => ∀ (l : T_ColS) (s : Int), sm_ColS 140737488355328 l → 0 ≤ s → s ≤ big → laws_szColS n l s = some (szR (cost_ColS l) s) := (szCol_ok.and (EV.gt 140737488355328)).up fun n h l s hl g0 g1 => by
  have hlen := hl.1
  rw [laws_szColS]
  unfold cost_ColS
  refine sz_str (r := fun s => laws_szColS_L1 n n l s (0 : Int)) (m := l.length) g0 g1 (by simp only [big]; omega) fun s g0 g1 => ?_
  refine sz_loop l _ (fun j k s => laws_szColS_L1 n j l s (k : Int)) (fun j s => by simp only [laws_szColS_L1, lt_cast, Nat.lt_irrefl, decide_false, cond_false]) (fun j k s hk h0 h1 => ?_) l n 0 s rfl (by omega) (by omega) g0 g1
  have e : laws_szCol n l[k].1 l[k].2.1 l[k].2.2.1 l[k].2.2.2.1 l[k].2.2.2.2.1 l[k].2.2.2.2.2.1 l[k].2.2.2.2.2.2 s = some (szR (cost_Col l[k]) s) := h.1 (l[k]) s (hl.2 _ (List.getElem_mem hk)) h0 h1
  simp only [laws_szColS_L1, lt_cast, decide_eq_true hk, inR_true hk, Int.toNat_natCast, getD_at hk, cond_true, wrap_succ hk (by omega), e, Option.bind_some]
  exact szR_step (fun s => laws_szColS_L1 n j l s ((k + 1 : Nat) : Int)) _ h0
theorem eqColS_ok : EV fun n => ∀ (l m : T_ColS), sm_ColS 1048576 l → laws_eqColS n l m = some (decide (l = m)) := (eqCol_ok.and (EV.gt 1048576)).up fun n h l m hl => by
  have hlen := hl.1
  rw [laws_eqColS]
  by_cases hlm : l.length = m.length
  · have : ((l.length : Int) != (m.length : Int)) = false := by simp [hlm]
    simp only [this, cond_false]
    refine (eq_loop l m hlm (fun j k => laws_eqColS_L1 n j l m (k : Int)) (fun j => by simp only [laws_eqColS_L1, lt_cast, Nat.lt_irrefl, decide_false, cond_false]) (fun j k hk hk2 => ?_) l n 0 rfl (by omega) (by omega)).trans (by simp)
    have e : laws_eqCol n l[k].1 l[k].2.1 l[k].2.2.1 l[k].2.2.2.1 l[k].2.2.2.2.1 l[k].2.2.2.2.2.1 l[k].2.2.2.2.2.2 m[k].1 m[k].2.1 m[k].2.2.1 m[k].2.2.2.1 m[k].2.2.2.2.1 m[k].2.2.2.2.2.1 m[k].2.2.2.2.2.2 = some (decide (l[k] = m[k])) := h.1 (l[k]) (m[k]) (hl.2 _ (List.getElem_mem hk))
    simp only [laws_eqColS_L1, lt_cast, decide_eq_true hk, inR_true hk, Int.toNat_natCast, getD_at hk, cond_true, wrap_succ hk (by omega), getD_at hk2, inR_true hk2, e, Option.bind_some]
    exact eq_step (l[k]) (m[k]) _
  · have : ((l.length : Int) != (m.length : Int)) = true := by simp; omega
    simp only [this, cond_true]
    congr 1; exact (decide_eq_false fun h => hlm (by rw [h])).symm
abbrev T_StringS := List ByteArray
def cost_StringS (x : T_StringS) : Nat := x.length + (x.map (fun (x : ByteArray) => x.size)).sum
def sm_StringS (k : Nat) (l : T_StringS) : Prop := l.length ≤ k ∧ ∀ x ∈ l, x.size ≤ k
theorem sm_up {l : T_StringS} (h : sm_StringS 1048576 l) : sm_StringS 1048577 l := ⟨Nat.le_trans h.1 (by decide), fun x hx => Nat.le_trans (h.2 x hx) (by decide)⟩
theorem cost_sm_StringS {k : Nat} {l : T_StringS} (h : cost_StringS l ≤ k) : sm_StringS k l := by
  unfold cost_StringS at h
  unfold sm_StringS
  refine ⟨by omega, fun x hx => ?_⟩
  have := le_sum (f := fun (x : ByteArray) => x.size) hx
  exact by omega
theorem toStringS_ok : EV fun n => ∀ l : T_StringS, sm_StringS 1048576 l → laws_toStringS n l = some l := (EV.gt 1048576).up fun n h l hl => by
  have hlen := hl.1
  have hroom : (decide ((l.length : Int) = (l.length : Int) ∧ 0 ≤ (l.length : Int)) && room (l.length : Int).toNat 16) = true := by simp [room]; omega
  rw [laws_toStringS, hroom]
  simp only [cond_true]
  refine (copy_loop0 (j := n) l id (fun j k s => laws_toStringS_L1 n j l (k : Int) s) (by omega) (by simp) (fun j s => by simp only [laws_toStringS_L1, lt_cast, Nat.lt_irrefl, decide_false, cond_false]) (fun j k s hk hs => ?_)).trans (by simp)
  have hks : k < s.length := by omega
  simp only [laws_toStringS_L1, lt_cast, decide_eq_true hk, inR_true hk, Int.toNat_natCast, getD_at hk, cond_true, wrap_succ hk (by omega), inR_true hks, Option.bind_some, id]
theorem szStringS_ok : EV fun n => ∀ (l : T_StringS) (s : Int), sm_StringS 140737488355328 l → 0 ≤ s → s ≤ big → laws_szStringS n l s = some (szR (cost_StringS l) s) := (EV.gt 140737488355328).up fun n h l s hl g0 g1 => by
  have hlen := hl.1
  rw [laws_szStringS]
  unfold cost_StringS
  refine sz_str (r := fun s => laws_szStringS_L1 n n l s (0 : Int)) (m := l.length) g0 g1 (by simp only [big]; omega) fun s g0 g1 => ?_
  refine sz_loop l _ (fun j k s => laws_szStringS_L1 n j l s (k : Int)) (fun j s => by simp only [laws_szStringS_L1, lt_cast, Nat.lt_irrefl, decide_false, cond_false]) (fun j k s hk h0 h1 => ?_) l n 0 s rfl (by omega) (by omega) g0 g1
  have hs := hl.2 _ (List.getElem_mem hk)
  simp only [big] at h0 h1
  simp only [laws_szStringS_L1, lt_cast, decide_eq_true hk, inR_true hk, Int.toNat_natCast, getD_at hk, cond_true, wrap_succ hk (by omega)]
  rw [wrap64 (by omega) (by omega)]
  exact str_step _ _
theorem eqStringS_okK : EV fun n => ∀ (l m : T_StringS), sm_StringS 1048577 l → laws_eqStringS n l m = some (decide (l = m)) := (EV.gt 1048577).up fun n h l m hl => by
  have hlen := hl.1
  rw [laws_eqStringS]
  by_cases hlm : l.length = m.length
  · have : ((l.length : Int) != (m.length : Int)) = false := by simp [hlm]
    simp only [this, cond_false]
    refine (eq_loop l m hlm (fun j k => laws_eqStringS_L1 n j l m (k : Int)) (fun j => by simp only [laws_eqStringS_L1, lt_cast, Nat.lt_irrefl, decide_false, cond_false]) (fun j k hk hk2 => ?_) l n 0 rfl (by omega) (by omega)).trans (by simp)
    simp only [laws_eqStringS_L1, lt_cast, decide_eq_true hk, inR_true hk, Int.toNat_natCast, getD_at hk, cond_true, wrap_succ hk (by omega), getD_at hk2, inR_true hk2, text_eq]
    exact eq_step (l[k]) (m[k]) _
  · have : ((l.length : Int) != (m.length : Int)) = true := by simp; omega
    simp only [this, cond_true]
    congr 1; exact (decide_eq_false fun h => hlm (by rw [h])).symm
theorem eqStringS_ok : EV fun n => ∀ (l m : T_StringS), sm_StringS 1048576 l → laws_eqStringS n l m = some (decide (l = m)) := eqStringS_okK.mono fun n h l m hs => h l m (sm_up hs)
abbrev T_Table := ByteArray × (T_ColS × (T_StringS))
instance i_Table : DecidableEq T_Table := @instDecidableEqProd _ _ inferInstance (@instDecidableEqProd _ _ inferInstance (inferInstance))
def cost_Table (x : T_Table) : Nat := x.1.size + (cost_ColS x.2.1 + (cost_StringS x.2.2 + (0)))
def sm_Table (k : Nat) (x : T_Table) : Prop := x.1.size ≤ k ∧ sm_ColS k x.2.1 ∧ sm_StringS k x.2.2
theorem cost_sm_Table {k : Nat} {x : T_Table} (h : cost_Table x ≤ k) : sm_Table k x := by
  unfold cost_Table at h
  unfold sm_Table
  exact ⟨by omega, cost_sm_ColS (by omega), cost_sm_StringS (by omega)⟩
theorem toTable_ok : EV fun n => ∀ x : T_Table, sm_Table 1048576 x → laws_toTable n x.1 x.2.1 x.2.2 = some x := (toColS_ok.and (toStringS_ok.and EV.true)).up fun n h x hs => by
  unfold sm_Table at hs
  have e0 : laws_toColS n x.2.1 = some x.2.1 := h.1 x.2.1 (hs.2.1)
  have e1 : laws_toStringS n x.2.2 = some x.2.2 := h.2.1 x.2.2 (hs.2.2)
  simp only [laws_toTable, e0, e1, Option.bind_some]
theorem szTable_ok : EV fun n => ∀ (x : T_Table) (l : Int), sm_Table 140737488355328 x → 0 ≤ l → l ≤ big → laws_szTable n x.1 x.2.1 x.2.2 l = some (szR (cost_Table x) l) := (szColS_ok.and (szStringS_ok.and EV.true)).up fun n h x l0 hs g0 g1 => by
  unfold sm_Table at hs
  rw [laws_szTable]
  unfold cost_Table
  exact sz_str (m := x.1.size) g0 g1 (by have := hs.1; simp only [big]; omega) fun l1 g2 g3 => sz_call g2 g3 (h.1 x.2.1 l1 (hs.2.1) g2 g3) fun l2 g4 g5 => sz_call g4 g5 (h.2.1 x.2.2 l2 (hs.2.2) g4 g5) fun l3 g6 g7 => sz_end g6
theorem eqTable_ok : EV fun n => ∀ (x y : T_Table), sm_Table 1048576 x → laws_eqTable n x.1 x.2.1 x.2.2 y.1 y.2.1 y.2.2 = some (decide (x = y)) := (eqColS_ok.and (eqStringS_ok.and EV.true)).up fun n h x y hs => by
  unfold sm_Table at hs
  have e0 : laws_eqColS n x.2.1 y.2.1 = some (decide (x.2.1 = y.2.1)) := h.1 x.2.1 y.2.1 (hs.2.1)
  have e1 : laws_eqStringS n x.2.2 y.2.2 = some (decide (x.2.2 = y.2.2)) := h.2.1 x.2.2 y.2.2 (hs.2.2)
  simp only [laws_eqTable, e0, e1, Option.bind_some, text_eq]
  obtain ⟨x0 , x1 , x2⟩ := x
  obtain ⟨y0 , y1 , y2⟩ := y
  simp only [eq_step, eq_step2, eq_step3, eq_last, eq_and]
  exact congrArg some (decide_eq_decide.mpr (by simp only [Prod.mk.injEq]))
abbrev T_TableS := List T_Table
def cost_TableS (x : T_TableS) : Nat := x.length + (x.map (cost_Table)).sum
def sm_TableS (k : Nat) (l : T_TableS) : Prop := l.length ≤ k ∧ ∀ x ∈ l, sm_Table k x
theorem cost_sm_TableS {k : Nat} {l : T_TableS} (h : cost_TableS l ≤ k) : sm_TableS k l := by
  unfold cost_TableS at h
  unfold sm_TableS
  refine ⟨by omega, fun x hx => ?_⟩
  have := le_sum (f := cost_Table) hx
  exact cost_sm_Table (by omega)
abbrev T_Cat := T_TableS
def cost_Cat (x : T_Cat) : Nat := cost_TableS x + (0)
def sm_Cat (k : Nat) (x : T_Cat) : Prop := sm_TableS k x
theorem cost_sm_Cat {k : Nat} {x : T_Cat} (h : cost_Cat x ≤ k) : sm_Cat k x := by
  unfold cost_Cat at h
  unfold sm_Cat
  exact cost_sm_TableS (by omega)
abbrev T_Row := T_ValS
def cost_Row (x : T_Row) : Nat := cost_ValS x + (0)
def sm_Row (k : Nat) (x : T_Row) : Prop := sm_ValS k x
theorem cost_sm_Row {k : Nat} {x : T_Row} (h : cost_Row x ≤ k) : sm_Row k x := by
  unfold cost_Row at h
  unfold sm_Row
  exact cost_sm_ValS (by omega)
theorem toRow_ok : EV fun n => ∀ x : T_Row, sm_Row 1048576 x → laws_toRow n x = some x := (toValS_ok.and EV.true).up fun n h x hs => by
  unfold sm_Row at hs
  have e0 : laws_toValS n x = some x := h.1 x (hs)
  simp only [laws_toRow, e0, Option.bind_some]
theorem szRow_ok : EV fun n => ∀ (x : T_Row) (l : Int), sm_Row 140737488355328 x → 0 ≤ l → l ≤ big → laws_szRow n x l = some (szR (cost_Row x) l) := (szValS_ok.and EV.true).up fun n h x l0 hs g0 g1 => by
  unfold sm_Row at hs
  rw [laws_szRow]
  unfold cost_Row
  exact sz_call g0 g1 (h.1 x l0 (hs) g0 g1) fun l1 g2 g3 => sz_end g2
theorem eqRow_ok : EV fun n => ∀ (x y : T_Row), sm_Row 1048576 x → laws_eqRow n x y = some (decide (x = y)) := (eqValS_ok.and EV.true).up fun n h x y hs => by
  unfold sm_Row at hs
  have e0 : laws_eqValS n x y = some (decide (x = y)) := h.1 x y (hs)
  simp only [laws_eqRow, e0, Option.bind_some, text_eq]
  exact eq_end _
abbrev T_RowS := List T_Row
def cost_RowS (x : T_RowS) : Nat := x.length + (x.map (cost_Row)).sum
def sm_RowS (k : Nat) (l : T_RowS) : Prop := l.length ≤ k ∧ ∀ x ∈ l, sm_Row k x
theorem cost_sm_RowS {k : Nat} {l : T_RowS} (h : cost_RowS l ≤ k) : sm_RowS k l := by
  unfold cost_RowS at h
  unfold sm_RowS
  refine ⟨by omega, fun x hx => ?_⟩
  have := le_sum (f := cost_Row) hx
  exact cost_sm_Row (by omega)
theorem toRowS_ok : EV fun n => ∀ l : T_RowS, sm_RowS 1048576 l → laws_toRowS n l = some l := (toRow_ok.and (EV.gt 1048576)).up fun n h l hl => by
  have hlen := hl.1
  have hroom : (decide ((l.length : Int) = (l.length : Int) ∧ 0 ≤ (l.length : Int)) && room (l.length : Int).toNat 24) = true := by simp [room]; omega
  rw [laws_toRowS, hroom]
  simp only [cond_true]
  refine (copy_loop0 (j := n) l id (fun j k s => laws_toRowS_L1 n j l (k : Int) s) (by omega) (by simp) (fun j s => by simp only [laws_toRowS_L1, lt_cast, Nat.lt_irrefl, decide_false, cond_false]) (fun j k s hk hs => ?_)).trans (by simp)
  have hks : k < s.length := by omega
  have e : laws_toRow n l[k] = some l[k] := h.1 (l[k]) (hl.2 _ (List.getElem_mem hk))
  simp only [laws_toRowS_L1, lt_cast, decide_eq_true hk, inR_true hk, Int.toNat_natCast, getD_at hk, cond_true, wrap_succ hk (by omega), inR_true hks, Option.bind_some, id, e]
theorem szRowS_ok : EV fun n => ∀ (l : T_RowS) (s : Int), sm_RowS 140737488355328 l → 0 ≤ s → s ≤ big → laws_szRowS n l s = some (szR (cost_RowS l) s) := (szRow_ok.and (EV.gt 140737488355328)).up fun n h l s hl g0 g1 => by
  have hlen := hl.1
  rw [laws_szRowS]
  unfold cost_RowS
  refine sz_str (r := fun s => laws_szRowS_L1 n n l s (0 : Int)) (m := l.length) g0 g1 (by simp only [big]; omega) fun s g0 g1 => ?_
  refine sz_loop l _ (fun j k s => laws_szRowS_L1 n j l s (k : Int)) (fun j s => by simp only [laws_szRowS_L1, lt_cast, Nat.lt_irrefl, decide_false, cond_false]) (fun j k s hk h0 h1 => ?_) l n 0 s rfl (by omega) (by omega) g0 g1
  have e : laws_szRow n l[k] s = some (szR (cost_Row l[k]) s) := h.1 (l[k]) s (hl.2 _ (List.getElem_mem hk)) h0 h1
  simp only [laws_szRowS_L1, lt_cast, decide_eq_true hk, inR_true hk, Int.toNat_natCast, getD_at hk, cond_true, wrap_succ hk (by omega), e, Option.bind_some]
  exact szR_step (fun s => laws_szRowS_L1 n j l s ((k + 1 : Nat) : Int)) _ h0
theorem eqRowS_ok : EV fun n => ∀ (l m : T_RowS), sm_RowS 1048576 l → laws_eqRowS n l m = some (decide (l = m)) := (eqRow_ok.and (EV.gt 1048576)).up fun n h l m hl => by
  have hlen := hl.1
  rw [laws_eqRowS]
  by_cases hlm : l.length = m.length
  · have : ((l.length : Int) != (m.length : Int)) = false := by simp [hlm]
    simp only [this, cond_false]
    refine (eq_loop l m hlm (fun j k => laws_eqRowS_L1 n j l m (k : Int)) (fun j => by simp only [laws_eqRowS_L1, lt_cast, Nat.lt_irrefl, decide_false, cond_false]) (fun j k hk hk2 => ?_) l n 0 rfl (by omega) (by omega)).trans (by simp)
    have e : laws_eqRow n l[k] m[k] = some (decide (l[k] = m[k])) := h.1 (l[k]) (m[k]) (hl.2 _ (List.getElem_mem hk))
    simp only [laws_eqRowS_L1, lt_cast, decide_eq_true hk, inR_true hk, Int.toNat_natCast, getD_at hk, cond_true, wrap_succ hk (by omega), getD_at hk2, inR_true hk2, e, Option.bind_some]
    exact eq_step (l[k]) (m[k]) _
  · have : ((l.length : Int) != (m.length : Int)) = true := by simp; omega
    simp only [this, cond_true]
    congr 1; exact (decide_eq_false fun h => hlm (by rw [h])).symm
abbrev T_Rows := T_RowS
def cost_Rows (x : T_Rows) : Nat := cost_RowS x + (0)
def sm_Rows (k : Nat) (x : T_Rows) : Prop := sm_RowS k x
theorem cost_sm_Rows {k : Nat} {x : T_Rows} (h : cost_Rows x ≤ k) : sm_Rows k x := by
  unfold cost_Rows at h
  unfold sm_Rows
  exact cost_sm_RowS (by omega)
abbrev T_RowsS := List T_Rows
def cost_RowsS (x : T_RowsS) : Nat := x.length + (x.map (cost_Rows)).sum
def sm_RowsS (k : Nat) (l : T_RowsS) : Prop := l.length ≤ k ∧ ∀ x ∈ l, sm_Rows k x
theorem cost_sm_RowsS {k : Nat} {l : T_RowsS} (h : cost_RowsS l ≤ k) : sm_RowsS k l := by
  unfold cost_RowsS at h
  unfold sm_RowsS
  refine ⟨by omega, fun x hx => ?_⟩
  have := le_sum (f := cost_Rows) hx
  exact cost_sm_Rows (by omega)
abbrev T_Db := T_Cat × (T_RowsS)
instance i_Db : DecidableEq T_Db := @instDecidableEqProd _ _ inferInstance (inferInstance)
def cost_Db (x : T_Db) : Nat := cost_Cat x.1 + (cost_RowsS x.2 + (0))
def sm_Db (k : Nat) (x : T_Db) : Prop := sm_Cat k x.1 ∧ sm_RowsS k x.2
theorem cost_sm_Db {k : Nat} {x : T_Db} (h : cost_Db x ≤ k) : sm_Db k x := by
  unfold cost_Db at h
  unfold sm_Db
  exact ⟨cost_sm_Cat (by omega), cost_sm_RowsS (by omega)⟩
abbrev T_Ddl := Int × (ByteArray × (T_ColS × (T_StringS × (ByteArray × (ByteArray)))))
instance i_Ddl : DecidableEq T_Ddl := @instDecidableEqProd _ _ inferInstance (@instDecidableEqProd _ _ inferInstance (@instDecidableEqProd _ _ inferInstance (@instDecidableEqProd _ _ inferInstance (@instDecidableEqProd _ _ inferInstance (inferInstance)))))
def cost_Ddl (x : T_Ddl) : Nat := x.2.1.size + (cost_ColS x.2.2.1 + (cost_StringS x.2.2.2.1 + (x.2.2.2.2.1.size + (x.2.2.2.2.2.size + (0)))))
def sm_Ddl (k : Nat) (x : T_Ddl) : Prop := x.2.1.size ≤ k ∧ sm_ColS k x.2.2.1 ∧ sm_StringS k x.2.2.2.1 ∧ x.2.2.2.2.1.size ≤ k ∧ x.2.2.2.2.2.size ≤ k
theorem cost_sm_Ddl {k : Nat} {x : T_Ddl} (h : cost_Ddl x ≤ k) : sm_Ddl k x := by
  unfold cost_Ddl at h
  unfold sm_Ddl
  exact ⟨by omega, cost_sm_ColS (by omega), cost_sm_StringS (by omega), by omega, by omega⟩
theorem toDdl_ok : EV fun n => ∀ x : T_Ddl, sm_Ddl 1048576 x → laws_toDdl n x.1 x.2.1 x.2.2.1 x.2.2.2.1 x.2.2.2.2.1 x.2.2.2.2.2 = some x := (toColS_ok.and (toStringS_ok.and EV.true)).up fun n h x hs => by
  unfold sm_Ddl at hs
  have e0 : laws_toColS n x.2.2.1 = some x.2.2.1 := h.1 x.2.2.1 (hs.2.1)
  have e1 : laws_toStringS n x.2.2.2.1 = some x.2.2.2.1 := h.2.1 x.2.2.2.1 (hs.2.2.1)
  simp only [laws_toDdl, e0, e1, Option.bind_some]
theorem szDdl_ok : EV fun n => ∀ (x : T_Ddl) (l : Int), sm_Ddl 140737488355328 x → 0 ≤ l → l ≤ big → laws_szDdl n x.1 x.2.1 x.2.2.1 x.2.2.2.1 x.2.2.2.2.1 x.2.2.2.2.2 l = some (szR (cost_Ddl x) l) := (szColS_ok.and (szStringS_ok.and EV.true)).up fun n h x l0 hs g0 g1 => by
  unfold sm_Ddl at hs
  rw [laws_szDdl]
  unfold cost_Ddl
  exact sz_str (m := x.2.1.size) g0 g1 (by have := hs.1; simp only [big]; omega) fun l1 g2 g3 => sz_call g2 g3 (h.1 x.2.2.1 l1 (hs.2.1) g2 g3) fun l2 g4 g5 => sz_call g4 g5 (h.2.1 x.2.2.2.1 l2 (hs.2.2.1) g4 g5) fun l3 g6 g7 => sz_str (m := x.2.2.2.2.1.size) g6 g7 (by have := hs.2.2.2.1; simp only [big]; omega) fun l4 g8 g9 => sz_str (m := x.2.2.2.2.2.size) g8 g9 (by have := hs.2.2.2.2; simp only [big]; omega) fun l5 g10 g11 => sz_end g10
theorem eqDdl_ok : EV fun n => ∀ (x y : T_Ddl), sm_Ddl 1048576 x → laws_eqDdl n x.1 x.2.1 x.2.2.1 x.2.2.2.1 x.2.2.2.2.1 x.2.2.2.2.2 y.1 y.2.1 y.2.2.1 y.2.2.2.1 y.2.2.2.2.1 y.2.2.2.2.2 = some (decide (x = y)) := (eqColS_ok.and (eqStringS_ok.and EV.true)).up fun n h x y hs => by
  unfold sm_Ddl at hs
  have e0 : laws_eqColS n x.2.2.1 y.2.2.1 = some (decide (x.2.2.1 = y.2.2.1)) := h.1 x.2.2.1 y.2.2.1 (hs.2.1)
  have e1 : laws_eqStringS n x.2.2.2.1 y.2.2.2.1 = some (decide (x.2.2.2.1 = y.2.2.2.1)) := h.2.1 x.2.2.2.1 y.2.2.2.1 (hs.2.2.1)
  simp only [laws_eqDdl, e0, e1, Option.bind_some, text_eq]
  obtain ⟨x0 , x1 , x2 , x3 , x4 , x5⟩ := x
  obtain ⟨y0 , y1 , y2 , y3 , y4 , y5⟩ := y
  simp only [eq_step, eq_step2, eq_step3, eq_last, eq_and]
  exact congrArg some (decide_eq_decide.mpr (by simp only [Prod.mk.injEq]))
abbrev T_Stmt := Int × (ByteArray × (T_ValS × (T_Row × (T_Ddl))))
instance i_Stmt : DecidableEq T_Stmt := @instDecidableEqProd _ _ inferInstance (@instDecidableEqProd _ _ inferInstance (@instDecidableEqProd _ _ inferInstance (@instDecidableEqProd _ _ inferInstance (inferInstance))))
def cost_Stmt (x : T_Stmt) : Nat := x.2.1.size + (cost_ValS x.2.2.1 + (cost_Row x.2.2.2.1 + (cost_Ddl x.2.2.2.2 + (0))))
def sm_Stmt (k : Nat) (x : T_Stmt) : Prop := x.2.1.size ≤ k ∧ sm_ValS k x.2.2.1 ∧ sm_Row k x.2.2.2.1 ∧ sm_Ddl k x.2.2.2.2
theorem cost_sm_Stmt {k : Nat} {x : T_Stmt} (h : cost_Stmt x ≤ k) : sm_Stmt k x := by
  unfold cost_Stmt at h
  unfold sm_Stmt
  exact ⟨by omega, cost_sm_ValS (by omega), cost_sm_Row (by omega), cost_sm_Ddl (by omega)⟩
abbrev T_StmtS := List T_Stmt
def cost_StmtS (x : T_StmtS) : Nat := x.length + (x.map (cost_Stmt)).sum
def sm_StmtS (k : Nat) (l : T_StmtS) : Prop := l.length ≤ k ∧ ∀ x ∈ l, sm_Stmt k x
theorem cost_sm_StmtS {k : Nat} {l : T_StmtS} (h : cost_StmtS l ≤ k) : sm_StmtS k l := by
  unfold cost_StmtS at h
  unfold sm_StmtS
  refine ⟨by omega, fun x hx => ?_⟩
  have := le_sum (f := cost_Stmt) hx
  exact cost_sm_Stmt (by omega)
abbrev T_Rec := Int × (Int × (T_Stmt))
instance i_Rec : DecidableEq T_Rec := @instDecidableEqProd _ _ inferInstance (@instDecidableEqProd _ _ inferInstance (inferInstance))
def cost_Rec (x : T_Rec) : Nat := cost_Stmt x.2.2 + (0)
def sm_Rec (k : Nat) (x : T_Rec) : Prop := sm_Stmt k x.2.2
theorem cost_sm_Rec {k : Nat} {x : T_Rec} (h : cost_Rec x ≤ k) : sm_Rec k x := by
  unfold cost_Rec at h
  unfold sm_Rec
  exact cost_sm_Stmt (by omega)
abbrev T_RecS := List T_Rec
def cost_RecS (x : T_RecS) : Nat := x.length + (x.map (cost_Rec)).sum
def sm_RecS (k : Nat) (l : T_RecS) : Prop := l.length ≤ k ∧ ∀ x ∈ l, sm_Rec k x
theorem cost_sm_RecS {k : Nat} {l : T_RecS} (h : cost_RecS l ≤ k) : sm_RecS k l := by
  unfold cost_RecS at h
  unfold sm_RecS
  refine ⟨by omega, fun x hx => ?_⟩
  have := le_sum (f := cost_Rec) hx
  exact cost_sm_Rec (by omega)
abbrev T_ByteS := List Int
def cost_ByteS (x : T_ByteS) : Nat := x.length + (x.map (fun _ => 0)).sum
def sm_ByteS (k : Nat) (l : T_ByteS) : Prop := l.length ≤ k ∧ ∀ x ∈ l, 0 ≤ x ∧ x ≤ 255
abbrev T_IntS := List Int
def cost_IntS (x : T_IntS) : Nat := x.length + (x.map (fun _ => 0)).sum
def sm_IntS (k : Nat) (l : T_IntS) : Prop := l.length ≤ k ∧ ∀ x ∈ l, True
theorem cost_sm_IntS {k : Nat} {l : T_IntS} (h : cost_IntS l ≤ k) : sm_IntS k l := by
  unfold cost_IntS at h
  unfold sm_IntS
  refine ⟨by omega, fun x hx => ?_⟩
  trivial
theorem markText_run : ∀ (d : Nat) (k : Int) (s : ByteArray), k < 10 ^ d → k ≤ 9223372036854775807 → s.size + d ≤ 1000 → ∃ r, ∀ n j, d < j → laws_markText_L1 n j k s = some r
  | 0, k, s, h, _, hs => by
    refine ⟨(⟨#[109]⟩ : ByteArray) ++ s, fun n j hj => ?_⟩
    obtain ⟨j, rfl⟩ : ∃ i, j = i + 1 := ⟨j - 1, by omega⟩
    have h' : ¬ (0 < k) := by simp at h; omega
    have e : (⟨#[109]⟩ : ByteArray).size = 1 := rfl
    simp only [laws_markText_L1, decide_eq_false h', cond_false, e]
    rw [decide_eq_true (by omega), cond_true]
  | d + 1, k, s, h, hm, hs => by
    by_cases h' : 0 < k
    · have h10 : (10 : Int) ^ (d + 1) = 10 ^ d * 10 := Int.pow_succ ..
      have he : k.tdiv 10 = k / 10 := Int.tdiv_eq_ediv_of_nonneg (by omega)
      have hd : k / 10 < 10 ^ d := by omega
      have e : ∀ x : Int, (strOfNums [x]).size = 1 := fun x => rfl
      obtain ⟨r, hr⟩ := markText_run d (k / 10) (strOfNums [IntKind.wrap .u8 (IntKind.wrap .i64 ((48 : Int) + (Int.tmod k (10 : Int))))] ++ s) hd (by omega) (by simp [e]; omega)
      refine ⟨r, fun n j hj => ?_⟩
      obtain ⟨j, rfl⟩ : ∃ i, j = i + 1 := ⟨j - 1, by omega⟩
      simp only [laws_markText_L1, decide_eq_true h', cond_true, e]
      rw [decide_eq_true (show 1 + s.size ≤ 9223372036854775807 by omega), he, wrap64 (x := k / 10) (by omega) (by omega)]
      simp only [cond_true]
      exact hr n j (by omega)
    · refine ⟨(⟨#[109]⟩ : ByteArray) ++ s, fun n j hj => ?_⟩
      obtain ⟨j, rfl⟩ : ∃ i, j = i + 1 := ⟨j - 1, by omega⟩
      have e : (⟨#[109]⟩ : ByteArray).size = 1 := rfl
      simp only [laws_markText_L1, decide_eq_false h', cond_false, e]
      rw [decide_eq_true (by omega), cond_true]
def mtx (k : Int) : ByteArray := (laws_markText 40 k).getD ⟨#[]⟩
theorem markText_ok : EV fun n => ∀ k : Int, k ≤ 9223372036854775807 → laws_markText n k = some (mtx k) := (EV.gt 40).up fun n hn k hk => by
  obtain ⟨r, hr⟩ := markText_run 20 k ⟨#[]⟩ (Int.lt_of_le_of_lt hk (by decide)) hk (by decide)
  unfold mtx
  simp only [laws_markText]
  rw [hr n n (by omega), hr 39 39 (by omega)]
  cases decide (k ≤ 0) <;> rfl

def mc_ValS (x : T_ValS) : Nat := mcL (fun _ => 3) x
def mk_ValS (k : Int) (x : T_ValS) : T_ValS := mkL (fun k _ => (k, (k + 1, mtx (k + 2)))) (fun _ => 3) k x
theorem mb_ValS {x : T_ValS} (h : sm_ValS 1048576 x) : mc_ValS x ≤ 3145728 := mcL_le' (b := 3) (fun _ _ => by decide) h.1 (by decide)
theorem markValS_ok : EV fun n => ∀ (x : T_ValS) (k : Int), sm_ValS 1048576 x → 0 ≤ k → k + mc_ValS x ≤ markMax → laws_markValS_o n x k = some (k + mc_ValS x, (mk_ValS k x, ())) := (markText_ok.and (EV.gt 1048578)).up fun n ⟨h, hn⟩ x k hs h0 h1 => by
  have hl := hs.1
  have d3 : decide ((3 : Int) = 0) = false := by decide
  rw [laws_markValS_o]
  refine mark_loop (fun k _ => (k, (k + 1, mtx (k + 2)))) (fun _ => 3) (fun _ => True) (fun j k i l => laws_markValS_o_L1 n j k i l) (fun j k l => by simp only [laws_markValS_o_L1, lt_cast, Nat.lt_irrefl, decide_false, cond_false]) (fun j k i l hi _ h0 h1 hl => ?_) x [] n k (by omega) (by simp; omega) (fun _ _ => trivial) h0 h1
  simp only [markMax] at h1
  simp only [laws_markValS_o_L1, lt_cast, decide_eq_true hi, inR_true hi, cond_true, Int.toNat_natCast, wrap_succ hi (by omega)]
  simp (disch := omega) only [wrapk, List.length_set, getD_at hi, setAt, inR_true hi, cond_true, List.set_set, h, Option.bind_some, Int.add_assoc, Int.reduceAdd, Int.toNat_natCast]
  rfl
theorem heldValS_ok : EV fun n => ∀ (x : T_ValS) (k : Int), sm_ValS 1048576 x → 0 ≤ k → k + mc_ValS x ≤ markMax → laws_heldValS n (mk_ValS k x) k = some (k + mc_ValS x) := (markText_ok.and (EV.gt 1048578)).up fun n ⟨h, hn⟩ x k hs h0 h1 => by
  have hl := hs.1
  have d3 : decide ((3 : Int) = 0) = false := by decide
  have hlen := mkL_len (fun (k : Int) (_ : T_Val) => (k, (k + 1, mtx (k + 2)))) (fun _ => 3) x k
  rw [laws_heldValS]
  refine held_loop (fun k _ => (k, (k + 1, mtx (k + 2)))) (fun _ => 3) (fun _ => True) (mk_ValS k x) (fun j k' i => laws_heldValS_L1 n j (mk_ValS k x) k' i) (by unfold mk_ValS; omega) (fun j k' => by simp only [laws_heldValS_L1, lt_cast, Nat.lt_irrefl, decide_false, cond_false]) (fun j k' i y hi _ hx h0 h1 => ?_) x [] n k rfl (by omega) (fun _ _ => trivial) h0 h1
  have hi2 : i < 1048578 := by unfold mk_ValS at hi; omega
  simp only [markMax] at h1
  simp only [laws_heldValS_L1, lt_cast, decide_eq_true hi, inR_true hi, cond_true, Int.toNat_natCast, getD_at hi, hx]
  rw [wrap64 (x := (i : Int) + 1) (by omega) (by omega), show (i : Int) + 1 = ((i + 1 : Nat) : Int) by omega]
  simp (disch := omega) only [wrapk, h, d3, Option.bind_some, Int.add_assoc, Int.reduceAdd, bne_self_eq_false, BEq.rfl, Bool.not_true, Bool.not_false, cond_false, cond_true]
  rfl
def mc_ColS (x : T_ColS) : Nat := mcL (fun _ => 7) x
def mk_ColS (k : Int) (x : T_ColS) : T_ColS := mkL (fun k _ => (mtx k, (k + 1, (Int.tmod (k + 2) 3 == 0, (Int.tmod (k + 3) 3 == 0, (k + 4, (k + 5, mtx (k + 6)))))))) (fun _ => 7) k x
theorem mb_ColS {x : T_ColS} (h : sm_ColS 1048576 x) : mc_ColS x ≤ 7340032 := mcL_le' (b := 7) (fun _ _ => by decide) h.1 (by decide)
theorem markColS_ok : EV fun n => ∀ (x : T_ColS) (k : Int), sm_ColS 1048576 x → 0 ≤ k → k + mc_ColS x ≤ markMax → laws_markColS_o n x k = some (k + mc_ColS x, (mk_ColS k x, ())) := (markText_ok.and (EV.gt 1048578)).up fun n ⟨h, hn⟩ x k hs h0 h1 => by
  have hl := hs.1
  have d3 : decide ((3 : Int) = 0) = false := by decide
  rw [laws_markColS_o]
  refine mark_loop (fun k _ => (mtx k, (k + 1, (Int.tmod (k + 2) 3 == 0, (Int.tmod (k + 3) 3 == 0, (k + 4, (k + 5, mtx (k + 6)))))))) (fun _ => 7) (fun _ => True) (fun j k i l => laws_markColS_o_L1 n j k i l) (fun j k l => by simp only [laws_markColS_o_L1, lt_cast, Nat.lt_irrefl, decide_false, cond_false]) (fun j k i l hi _ h0 h1 hl => ?_) x [] n k (by omega) (by simp; omega) (fun _ _ => trivial) h0 h1
  simp only [markMax] at h1
  simp only [laws_markColS_o_L1, lt_cast, decide_eq_true hi, inR_true hi, cond_true, Int.toNat_natCast, wrap_succ hi (by omega)]
  simp (disch := omega) only [wrapk, List.length_set, getD_at hi, setAt, inR_true hi, cond_true, List.set_set, h, Option.bind_some, Int.add_assoc, Int.reduceAdd, Int.toNat_natCast, d3, Bool.not_false]
  rfl
def mc_StringS (x : T_StringS) : Nat := mcL (fun _ => 1) x
def mk_StringS (k : Int) (x : T_StringS) : T_StringS := mkL (fun k _ => mtx k) (fun _ => 1) k x
theorem mb_StringS {x : T_StringS} (h : sm_StringS 1048576 x) : mc_StringS x ≤ 1048576 := mcL_le' (b := 1) (fun _ _ => by decide) h.1 (by decide)
theorem mb_StringSK {x : T_StringS} (h : sm_StringS 1048577 x) : mc_StringS x ≤ 1048577 := mcL_le' (b := 1) (fun _ _ => by decide) h.1 (by decide)
theorem markStringS_okK : EV fun n => ∀ (x : T_StringS) (k : Int), sm_StringS 1048577 x → 0 ≤ k → k + mc_StringS x ≤ markMax → laws_markStringS_o n x k = some (k + mc_StringS x, (mk_StringS k x, ())) := (markText_ok.and (EV.gt 1048578)).up fun n ⟨h, hn⟩ x k hs h0 h1 => by
  have hl := hs.1
  have d3 : decide ((3 : Int) = 0) = false := by decide
  rw [laws_markStringS_o]
  refine mark_loop (fun k _ => mtx k) (fun _ => 1) (fun _ => True) (fun j k i l => laws_markStringS_o_L1 n j k i l) (fun j k l => by simp only [laws_markStringS_o_L1, lt_cast, Nat.lt_irrefl, decide_false, cond_false]) (fun j k i l hi _ h0 h1 hl => ?_) x [] n k (by omega) (by simp; omega) (fun _ _ => trivial) h0 h1
  simp only [markMax] at h1
  simp only [laws_markStringS_o_L1, lt_cast, decide_eq_true hi, inR_true hi, cond_true, Int.toNat_natCast, wrap_succ hi (by omega)]
  simp (disch := omega) only [wrapk, List.length_set, getD_at hi, setAt, inR_true hi, cond_true, List.set_set, h, Option.bind_some, Int.add_assoc, Int.reduceAdd, Int.toNat_natCast]
  rfl
theorem markStringS_ok : EV fun n => ∀ (x : T_StringS) (k : Int), sm_StringS 1048576 x → 0 ≤ k → k + mc_StringS x ≤ markMax → laws_markStringS_o n x k = some (k + mc_StringS x, (mk_StringS k x, ())) := markStringS_okK.mono fun n h x k hs h0 h1 => h x k (sm_up hs) h0 h1
def mc_Table (x : T_Table) : Nat := mc_ColS x.2.1 + mc_StringS x.2.2
theorem mb_Table {x : T_Table} (hs : sm_Table 1048576 x) : mc_Table x ≤ 8388608 := by
  unfold sm_Table at hs
  have b0 := mb_ColS (x := x.2.1) hs.2.1
  have b1 := mb_StringS (x := x.2.2) hs.2.2
  unfold mc_Table
  omega
theorem markTable_ok : EV fun n => ∀ (x : T_Table) (k : Int), sm_Table 1048576 x → 0 ≤ k → k + mc_Table x ≤ markMax → laws_markTable_o_o n x.1 x.2.1 x.2.2 k = some (k + mc_Table x, (mk_ColS k x.2.1, (mk_StringS (k + (mc_ColS x.2.1 : Int)) x.2.2, ()))) := (markColS_ok.and (markStringS_ok.and EV.true)).up fun n h x k hs h0 h1 => by
  unfold sm_Table at hs
  simp only [mc_Table] at h1 ⊢
  have e0 := h.1 x.2.1 (k) hs.2.1 (by omega) (by omega)
  have e1 := h.2.1 x.2.2 (k + (mc_ColS x.2.1 : Int)) hs.2.2 (by omega) (by omega)
  simp only [laws_markTable_o_o, e0, e1, Option.bind_some]
  refine congrArg some (Prod.ext ?_ ?_)
  · show (_ : Int) = _; omega
  · rfl
def mc_RowS (x : T_RowS) : Nat := mcL (fun y => mc_ValS y) x
def mk_RowS (k : Int) (x : T_RowS) : T_RowS := mkL (fun k y => mk_ValS k y) (fun y => mc_ValS y) k x
theorem mb_RowS {x : T_RowS} (h : sm_RowS 1048576 x) : mc_RowS x ≤ 3298534883328 := mcL_le' (b := 3145728) (fun y hy => by
  have hp := h.2 y hy
  have := mb_ValS (x := y) hp
  omega) h.1 (by decide)
theorem markRowS_ok : EV fun n => ∀ (x : T_RowS) (k : Int), sm_RowS 1048576 x → 0 ≤ k → k + mc_RowS x ≤ markMax → laws_markRowS_o n x k = some (k + mc_RowS x, (mk_RowS k x, ())) := (markValS_ok.and (EV.gt 1048578)).up fun n h x k hs h0 h1 => by
  have hl := hs.1
  have hn := h.2
  rw [laws_markRowS_o]
  refine mark_loop (fun k y => mk_ValS k y) (fun y => mc_ValS y) (fun y => sm_Row 1048576 y) (fun j k i l => laws_markRowS_o_L1 n j k i l) (fun j k l => by simp only [laws_markRowS_o_L1, lt_cast, Nat.lt_irrefl, decide_false, cond_false]) (fun j k i l hi hp h0 h1 hl => ?_) x [] n k (by omega) (by simp; omega) hs.2 h0 h1
  simp only [markMax] at h1
  have e0 := h.1 l[i] (k) hp (by omega) (by simp only [markMax]; omega)
  simp only [laws_markRowS_o_L1, lt_cast, decide_eq_true hi, inR_true hi, cond_true, Int.toNat_natCast, getD_at hi, e0, Option.bind_some, wrap_succ hi (by omega)]
theorem heldRowS_ok : EV fun n => ∀ (x : T_RowS) (k : Int), sm_RowS 1048576 x → 0 ≤ k → k + mc_RowS x ≤ markMax → laws_heldRowS n (mk_RowS k x) k = some (k + mc_RowS x) := (heldValS_ok.and (EV.gt 1048578)).up fun n h x k hs h0 h1 => by
  have hl := hs.1
  have hn := h.2
  have hlen := mkL_len (fun (k : Int) (y : T_Row) => mk_ValS k y) (fun y => mc_ValS y) x k
  rw [laws_heldRowS]
  refine held_loop (fun k y => mk_ValS k y) (fun y => mc_ValS y) (fun y => sm_Row 1048576 y) (mk_RowS k x) (fun j k' i => laws_heldRowS_L1 n j (mk_RowS k x) k' i) (by unfold mk_RowS; omega) (fun j k' => by simp only [laws_heldRowS_L1, lt_cast, Nat.lt_irrefl, decide_false, cond_false]) (fun j k i y hi hp hx h0 h1 => ?_) x [] n k rfl (by omega) hs.2 h0 h1
  have hi2 : i < 1048578 := by unfold mk_RowS at hi; omega
  simp only [markMax] at h1
  have e0 := h.1 y (k) hp (by omega) (by simp only [markMax]; omega)
  have d0 : decide (k + (mc_ValS y : Int) < 0) = false := decide_eq_false (by omega)
  simp only [laws_heldRowS_L1, lt_cast, decide_eq_true hi, inR_true hi, cond_true, Int.toNat_natCast, getD_at hi, hx]
  rw [wrap64 (x := (i : Int) + 1) (by omega) (by omega), show (i : Int) + 1 = ((i + 1 : Nat) : Int) by omega]
  simp (disch := omega) only [wrapk, e0, Option.bind_some, d0, bne_self_eq_false, BEq.rfl, Bool.not_true, Bool.not_false, cond_false, cond_true]
def mc_Ddl (x : T_Ddl) : Nat := mc_ColS x.2.2.1 + mc_StringS x.2.2.2.1
theorem mb_Ddl {x : T_Ddl} (hs : sm_Ddl 1048576 x) : mc_Ddl x ≤ 8388608 := by
  unfold sm_Ddl at hs
  have b0 := mb_ColS (x := x.2.2.1) hs.2.1
  have b1 := mb_StringS (x := x.2.2.2.1) hs.2.2.1
  unfold mc_Ddl
  omega
theorem markDdl_ok : EV fun n => ∀ (x : T_Ddl) (k : Int), sm_Ddl 1048576 x → 0 ≤ k → k + mc_Ddl x ≤ markMax → laws_markDdl_o_o n x.1 x.2.1 x.2.2.1 x.2.2.2.1 x.2.2.2.2.1 x.2.2.2.2.2 k = some (k + mc_Ddl x, (mk_ColS k x.2.2.1, (mk_StringS (k + (mc_ColS x.2.2.1 : Int)) x.2.2.2.1, ()))) := (markColS_ok.and (markStringS_ok.and EV.true)).up fun n h x k hs h0 h1 => by
  unfold sm_Ddl at hs
  simp only [mc_Ddl] at h1 ⊢
  have e0 := h.1 x.2.2.1 (k) hs.2.1 (by omega) (by omega)
  have e1 := h.2.1 x.2.2.2.1 (k + (mc_ColS x.2.2.1 : Int)) hs.2.2.1 (by omega) (by omega)
  simp only [laws_markDdl_o_o, e0, e1, Option.bind_some]
  refine congrArg some (Prod.ext ?_ ?_)
  · show (_ : Int) = _; omega
  · rfl
theorem wf_str {n : Nat} (h : n ≤ reachBytes) : n ≤ 140737488355328 := Nat.le_trans h (by decide)
theorem wf_len {n b : Nat} (hb : 1 ≤ b) (h : n * b ≤ reachBytes) : n ≤ 140737488355328 := Nat.le_trans (Nat.le_trans (Nat.le_mul_of_pos_right n hb) h) (by decide)
abbrev K_Val : Kd := .pair (.int .i64) (.pair (.int .i64) (.str))
theorem wf_Val {B : Kd → Nat} (hB : ∀ g, 1 ≤ B g) (x : T_Val) (h : Wf B K_Val x) : sm_Val 140737488355328 x := wf_str h.2.2
abbrev K_ValS : Kd := .sl K_Val
theorem wf_ValS {B : Kd → Nat} (hB : ∀ g, 1 ≤ B g) (x : T_ValS) (h : Wf B K_ValS x) : sm_ValS 140737488355328 x := ⟨wf_len (hB _) h.1, fun y hy => wf_Val hB y (h.2 y hy)⟩
abbrev K_Col : Kd := .pair .str (.pair (.int .i64) (.pair .bool (.pair .bool (K_Val))))
theorem wf_Col {B : Kd → Nat} (hB : ∀ g, 1 ≤ B g) (x : T_Col) (h : Wf B K_Col x) : sm_Col 140737488355328 x := ⟨wf_str h.1, wf_Val hB x.2.2.2.2 h.2.2.2.2⟩
abbrev K_ColS : Kd := .sl K_Col
theorem wf_ColS {B : Kd → Nat} (hB : ∀ g, 1 ≤ B g) (x : T_ColS) (h : Wf B K_ColS x) : sm_ColS 140737488355328 x := ⟨wf_len (hB _) h.1, fun y hy => wf_Col hB y (h.2 y hy)⟩
abbrev K_StringS : Kd := .sl .str
theorem wf_StringS {B : Kd → Nat} (hB : ∀ g, 1 ≤ B g) (x : T_StringS) (h : Wf B K_StringS x) : sm_StringS 140737488355328 x := ⟨wf_len (hB _) h.1, fun y hy => wf_str (h.2 y hy)⟩
abbrev K_Table : Kd := .pair .str (.pair K_ColS (K_StringS))
theorem wf_Table {B : Kd → Nat} (hB : ∀ g, 1 ≤ B g) (x : T_Table) (h : Wf B K_Table x) : sm_Table 140737488355328 x := ⟨wf_str h.1, wf_ColS hB x.2.1 h.2.1, wf_StringS hB x.2.2 h.2.2⟩
abbrev K_TableS : Kd := .sl K_Table
theorem wf_TableS {B : Kd → Nat} (hB : ∀ g, 1 ≤ B g) (x : T_TableS) (h : Wf B K_TableS x) : sm_TableS 140737488355328 x := ⟨wf_len (hB _) h.1, fun y hy => wf_Table hB y (h.2 y hy)⟩
abbrev K_Cat : Kd := K_TableS
theorem wf_Cat {B : Kd → Nat} (hB : ∀ g, 1 ≤ B g) (x : T_Cat) (h : Wf B K_Cat x) : sm_Cat 140737488355328 x := wf_TableS hB x h
abbrev K_Row : Kd := K_ValS
theorem wf_Row {B : Kd → Nat} (hB : ∀ g, 1 ≤ B g) (x : T_Row) (h : Wf B K_Row x) : sm_Row 140737488355328 x := wf_ValS hB x h
abbrev K_RowS : Kd := .sl K_Row
theorem wf_RowS {B : Kd → Nat} (hB : ∀ g, 1 ≤ B g) (x : T_RowS) (h : Wf B K_RowS x) : sm_RowS 140737488355328 x := ⟨wf_len (hB _) h.1, fun y hy => wf_Row hB y (h.2 y hy)⟩
abbrev K_Rows : Kd := K_RowS
theorem wf_Rows {B : Kd → Nat} (hB : ∀ g, 1 ≤ B g) (x : T_Rows) (h : Wf B K_Rows x) : sm_Rows 140737488355328 x := wf_RowS hB x h
abbrev K_RowsS : Kd := .sl K_Rows
theorem wf_RowsS {B : Kd → Nat} (hB : ∀ g, 1 ≤ B g) (x : T_RowsS) (h : Wf B K_RowsS x) : sm_RowsS 140737488355328 x := ⟨wf_len (hB _) h.1, fun y hy => wf_Rows hB y (h.2 y hy)⟩
abbrev K_Db : Kd := .pair K_Cat (K_RowsS)
theorem wf_Db {B : Kd → Nat} (hB : ∀ g, 1 ≤ B g) (x : T_Db) (h : Wf B K_Db x) : sm_Db 140737488355328 x := ⟨wf_Cat hB x.1 h.1, wf_RowsS hB x.2 h.2⟩
abbrev K_Ddl : Kd := .pair (.int .i64) (.pair .str (.pair K_ColS (.pair K_StringS (.pair .str (.str)))))
theorem wf_Ddl {B : Kd → Nat} (hB : ∀ g, 1 ≤ B g) (x : T_Ddl) (h : Wf B K_Ddl x) : sm_Ddl 140737488355328 x := ⟨wf_str h.2.1, wf_ColS hB x.2.2.1 h.2.2.1, wf_StringS hB x.2.2.2.1 h.2.2.2.1, wf_str h.2.2.2.2.1, wf_str h.2.2.2.2.2⟩
abbrev K_Stmt : Kd := .pair (.int .i64) (.pair .str (.pair K_ValS (.pair K_Row (K_Ddl))))
theorem wf_Stmt {B : Kd → Nat} (hB : ∀ g, 1 ≤ B g) (x : T_Stmt) (h : Wf B K_Stmt x) : sm_Stmt 140737488355328 x := ⟨wf_str h.2.1, wf_ValS hB x.2.2.1 h.2.2.1, wf_Row hB x.2.2.2.1 h.2.2.2.1, wf_Ddl hB x.2.2.2.2 h.2.2.2.2⟩
abbrev K_StmtS : Kd := .sl K_Stmt
theorem wf_StmtS {B : Kd → Nat} (hB : ∀ g, 1 ≤ B g) (x : T_StmtS) (h : Wf B K_StmtS x) : sm_StmtS 140737488355328 x := ⟨wf_len (hB _) h.1, fun y hy => wf_Stmt hB y (h.2 y hy)⟩
abbrev K_Rec : Kd := .pair (.int .i64) (.pair (.int .i64) (K_Stmt))
theorem wf_Rec {B : Kd → Nat} (hB : ∀ g, 1 ≤ B g) (x : T_Rec) (h : Wf B K_Rec x) : sm_Rec 140737488355328 x := wf_Stmt hB x.2.2 h.2.2
abbrev K_RecS : Kd := .sl K_Rec
theorem wf_RecS {B : Kd → Nat} (hB : ∀ g, 1 ≤ B g) (x : T_RecS) (h : Wf B K_RecS x) : sm_RecS 140737488355328 x := ⟨wf_len (hB _) h.1, fun y hy => wf_Rec hB y (h.2 y hy)⟩
abbrev K_ByteS : Kd := .sl (.int .u8)
theorem wf_ByteS {B : Kd → Nat} (hB : ∀ g, 1 ≤ B g) (x : T_ByteS) (h : Wf B K_ByteS x) : sm_ByteS 140737488355328 x := ⟨wf_len (hB _) h.1, fun y hy => h.2 y hy⟩
abbrev K_IntS : Kd := .sl (.int .i64)
theorem wf_IntS {B : Kd → Nat} (hB : ∀ g, 1 ≤ B g) (x : T_IntS) (h : Wf B K_IntS x) : sm_IntS 140737488355328 x := ⟨wf_len (hB _) h.1, fun y hy => trivial⟩
abbrev E0 : ByteArray := ⟨#[]⟩
/-! ### words, numbers, values -/
theorem within_ok : EV fun n => ∀ a b c, impl_within n a b c = some (decide (b ≤ a ∧ a ≤ c)) := EV.true.up fun n _ a b c => by
  simp only [impl_within]
  by_cases h : b ≤ a <;> simp [h]
theorem l01Num_ok : EV fun n => ∀ a, spec_l01Num n a = some (decide (-1099511627775 ≤ a ∧ a ≤ 1099511627775)) := EV.true.up fun n _ a => by
  simp only [spec_l01Num]
  by_cases h : -1099511627775 ≤ a <;> simp [h]
def lower (b : UInt8) : Bool := decide (97 ≤ b.toNat ∧ b.toNat ≤ 122)
def cWordOk (s : ByteArray) : Bool := s.data.toList.all lower && decide (1 ≤ s.size ∧ s.size ≤ 8)
theorem spec_WordOk_ok : EV fun n => ∀ s : ByteArray, s.size ≤ 1048576 → spec_WordOk n s = some (cWordOk s) := (EV.gt 1048576).up fun n h s hs => by
  rw [spec_WordOk]
  refine (alongT s (fun j k (_ : Unit) => spec_WordOk_L1 n j s (k : Int)) (fun t _ => some (t.all lower && decide (1 ≤ s.size ∧ s.size ≤ 8))) (fun j _ => ?_) (fun j k x t _ hd hk hb ih => ?_) (by omega) ())
  · simp only [spec_WordOk_L1, lt_cast, Nat.lt_irrefl, decide_false, cond_false, List.all_nil, Bool.true_and]
    by_cases h1 : (1 : Int) ≤ (s.size : Int)
    · simp only [decide_eq_true h1, cond_true]; congr 1; exact decide_eq_decide.mpr (by omega)
    · simp only [decide_eq_false h1, cond_false]; congr 1; exact (decide_eq_false (by omega)).symm
  · simp only [spec_WordOk_L1, lt_cast, decide_eq_true hk, inR_true hk, cond_true, hb, wrap_succ hk (by omega), List.all_cons]
    have := ih ()
    rw [this]
    by_cases h1 : (x.toNat : Int) < 97
    · have : lower x = false := decide_eq_false (by omega)
      simp only [decide_eq_true h1, cond_true, this, Bool.false_and]
    · by_cases h2 : (122 : Int) < (x.toNat : Int)
      · have : lower x = false := decide_eq_false (by omega)
        simp only [decide_eq_true h2, decide_eq_false h1, cond_true, cond_false, this, Bool.false_and]
      · have : lower x = true := decide_eq_true (by omega)
        simp only [decide_eq_false h2, decide_eq_false h1, cond_false, this, Bool.true_and]
theorem impl_WordOk_ok : EV fun n => ∀ s : ByteArray, s.size ≤ 1048576 → impl_WordOk n s = some (cWordOk s) := (within_ok.and (EV.gt 1048576)).up fun n ⟨hw, h⟩ s hs => by
  rw [impl_WordOk]
  refine (alongT s (fun j k (_ : Unit) => impl_WordOk_L1 n j s (k : Int)) (fun t _ => some (t.all lower && decide (1 ≤ s.size ∧ s.size ≤ 8))) (fun j _ => ?_) (fun j k x t _ hd hk hb ih => ?_) (by omega) ())
  · simp only [impl_WordOk_L1, lt_cast, Nat.lt_irrefl, decide_false, cond_false, List.all_nil, Bool.true_and, hw, Option.bind_some]
    congr 1; exact decide_eq_decide.mpr (by omega)
  · simp only [impl_WordOk_L1, lt_cast, decide_eq_true hk, inR_true hk, cond_true, hb, wrap_succ hk (by omega), List.all_cons]
    have := ih ()
    rw [this]
    by_cases h1 : (x.toNat : Int) < 97
    · have : lower x = false := decide_eq_false (by omega)
      simp only [decide_eq_true h1, cond_true, this, Bool.false_and]
    · by_cases h2 : (122 : Int) < (x.toNat : Int)
      · have : lower x = false := decide_eq_false (by omega)
        simp only [decide_eq_true h2, decide_eq_false h1, cond_true, cond_false, this, Bool.false_and]
      · have : lower x = true := decide_eq_true (by omega)
        simp only [decide_eq_false h2, decide_eq_false h1, cond_false, this, Bool.true_and]
def cValOk (a b : Int) (s : ByteArray) : Bool :=
  if a = 0 then decide (b = 0) && decide (s = E0) else if a = 1 then decide (b = 0 ∨ b = 1) && decide (s = E0) else
  if a = 2 then decide (-1099511627775 ≤ b ∧ b ≤ 1099511627775) && decide (s = E0) else if a = 3 then decide (b = 0) && decide (s.size ≤ 30) else false
theorem spec_ValOk_ok : EV fun n => ∀ a b s, spec_ValOk n a b s = some (cValOk a b s) := l01Num_ok.up fun n h a b s => by
  have hz : decide ((s.size : Int) ≤ 30) = decide (s.size ≤ 30) := decide_eq_decide.mpr (by omega)
  simp only [spec_ValOk, h, text_eq, Option.bind_some, int_beq, hz]
  generalize he : decide (s = E0) = e
  have he' : decide (s = ⟨#[]⟩) = e := he
  simp only [cValOk, he, he']
  by_cases h0 : a = 0
  · subst h0; by_cases hb : b = 0 <;> simp [hb]
  · by_cases h1 : a = 1
    · subst h1; by_cases hb : b = 0
      · simp [hb]
      · by_cases hb1 : b = 1 <;> simp [hb, hb1]
    · by_cases h2 : a = 2
      · subst h2; by_cases hb : -1099511627775 ≤ b ∧ b ≤ 1099511627775 <;> simp [hb]
      · by_cases h3 : a = 3
        · subst h3; by_cases hb : b = 0 <;> simp [hb]
        · simp [h0, h1, h2, h3]
theorem impl_ValOk_ok : EV fun n => ∀ a b s, impl_ValOk n a b s = some (cValOk a b s) := within_ok.up fun n h a b s => by
  have hz : decide ((s.size : Int) ≤ 30) = decide (s.size ≤ 30) := decide_eq_decide.mpr (by omega)
  simp only [impl_ValOk, h, text_eq, Option.bind_some, int_beq, hz]
  generalize he : decide (s = E0) = e
  have he' : decide (s = ⟨#[]⟩) = e := he
  simp only [cValOk, he, he']
  by_cases h0 : a = 0
  · subst h0; by_cases hb : b = 0 <;> simp [hb]
  · by_cases h1 : a = 1
    · subst h1; by_cases hb : b = 0
      · simp [hb]
      · by_cases hb1 : b = 1
        · simp [hb, hb1]
        · have : ¬ (0 ≤ b ∧ b ≤ 1) := by omega
          simp [hb, hb1, this]
    · by_cases h2 : a = 2
      · subst h2; by_cases hb : -1099511627775 ≤ b ∧ b ≤ 1099511627775 <;> simp [hb]
      · by_cases h3 : a = 3
        · subst h3; by_cases hb : b = 0 <;> simp [hb]
        · simp [h0, h1, h2, h3]
def cValLess (x y : T_Val) : Bool :=
  cValOk x.1 x.2.1 x.2.2 && cValOk y.1 y.2.1 y.2.2 && (if x.1 = y.1 then (if x.2.1 = y.2.1 then Op.bytesLess x.2.2.toList y.2.2.toList else decide (x.2.1 < y.2.1)) else decide (x.1 < y.1))
theorem spec_ValLess_ok : EV fun n => ∀ x y : T_Val, spec_ValLess n x.1 x.2.1 x.2.2 y.1 y.2.1 y.2.2 = some (cValLess x y) := spec_ValOk_ok.up fun n h x y => by
  obtain ⟨a, b, s⟩ := x; obtain ⟨c, d, t⟩ := y
  simp only [spec_ValLess, h, Option.bind_some, cValLess, int_beq, int_bne]
  cases cValOk a b s <;> cases cValOk c d t <;> simp
  by_cases h1 : a = c
  · by_cases h2 : b = d
    · simp [h1, h2]
    · by_cases h3 : b < d <;> simp [h1, h2, h3]
  · simp [h1]
theorem impl_ValLess_ok : EV fun n => ∀ x y : T_Val, impl_ValLess n x.1 x.2.1 x.2.2 y.1 y.2.1 y.2.2 = some (cValLess x y) := impl_ValOk_ok.up fun n h x y => by
  obtain ⟨a, b, s⟩ := x; obtain ⟨c, d, t⟩ := y
  simp only [impl_ValLess, h, Option.bind_some, cValLess, int_beq, int_bne]
  cases cValOk a b s <;> cases cValOk c d t <;> simp
  by_cases h1 : a = c
  · by_cases h2 : b = d
    · simp [h1, h2]
    · by_cases h3 : b < d <;> simp [h1, h2, h3]
  · simp [h1]
def null : T_Val := (0, 0, E0)
def cColOk (x : T_Col) : Bool :=
  cWordOk x.1 && decide (1 ≤ x.2.1 ∧ x.2.1 ≤ 3) && (if x.2.2.2.1 then cValOk x.2.2.2.2.1 x.2.2.2.2.2.1 x.2.2.2.2.2.2 && (decide (x.2.2.2.2.1 = x.2.1) || decide (x.2.2.2.2.1 = 0) && !x.2.2.1) else decide (x.2.2.2.2 = null))
theorem null_eq (a b : Int) (s : ByteArray) : ((a == (0 : Int)) && ((b == (0 : Int)) && (decide (s = E0) && true))) = decide ((a, b, s) = null) := by
  by_cases h1 : a = 0 <;> by_cases h2 : b = 0 <;> by_cases h3 : s = E0 <;> simp [null, h1, h2, h3]
theorem spec_ColOk_ok : EV fun n => ∀ x : T_Col, sm_Col 1048576 x → spec_ColOk n x.1 x.2.1 x.2.2.1 x.2.2.2.1 x.2.2.2.2.1 x.2.2.2.2.2.1 x.2.2.2.2.2.2 = some (cColOk x) := (spec_WordOk_ok.and spec_ValOk_ok).up fun n ⟨h1, h2⟩ x hs => by
  obtain ⟨a, t, nt, hs', v⟩ := x
  obtain ⟨b, c, s⟩ := v
  have hw := h1 a hs.1
  simp only [spec_ColOk, hw, h2, Option.bind_some, text_eq, null_eq, cColOk]
  cases cWordOk a
  · simp
  by_cases c1 : t < 1
  · simp [c1]; omega
  by_cases c2 : 3 < t
  · simp [c1, c2]; omega
  have c3 : 1 ≤ t ∧ t ≤ 3 := by omega
  simp only [Bool.not_true, cond_false, decide_eq_false c1, decide_eq_false c2, decide_eq_true c3, Bool.true_and]
  cases hs' <;> simp
  cases hv : cValOk b c s
  · simp
  by_cases hn : (b, c, s) = null
  · have h0 : ¬ (0 : Int) = t := by omega
    simp only [null, Prod.mk.injEq] at hn; obtain ⟨rfl, rfl, rfl⟩ := hn
    cases nt <;> simp [null, h0]
  · by_cases hbt : b = t
    · subst hbt; cases nt <;> simp [hn, int_beq]
    · by_cases hb : b = 0
      · exfalso
        subst hb
        simp [cValOk] at hv
        exact hn (by simp [null, hv])
      · cases nt <;> simp [hn, hbt, hb, int_beq]
theorem impl_ColOk_ok : EV fun n => ∀ x : T_Col, sm_Col 1048576 x → impl_ColOk n x.1 x.2.1 x.2.2.1 x.2.2.2.1 x.2.2.2.2.1 x.2.2.2.2.2.1 x.2.2.2.2.2.2 = some (cColOk x) := (impl_WordOk_ok.and (impl_ValOk_ok.and within_ok)).up fun n ⟨h1, h2, h3⟩ x hs => by
  obtain ⟨a, t, nt, hs', v⟩ := x
  obtain ⟨b, c, s⟩ := v
  have hw := h1 a hs.1
  simp only [impl_ColOk, hw, h2, h3, Option.bind_some, text_eq, null_eq, cColOk]
  cases cWordOk a
  · simp
  by_cases c3 : 1 ≤ t ∧ t ≤ 3
  · simp only [Bool.not_true, cond_false, decide_eq_true c3, Bool.true_and]
    cases hs'
    · by_cases hn : (b, c, s) = null
      · have : cValOk b c s = true := by
          simp [null] at hn; obtain ⟨rfl, rfl, rfl⟩ := hn; rfl
        simp [hn, this]
      · cases cValOk b c s <;> simp [hn]
    · cases cValOk b c s <;> simp
      by_cases hbt : b = t
      · simp [hbt, int_beq]
      · by_cases hb : b = 0
        · subst hb; cases nt <;> simp [hbt, int_beq]
        · simp [hbt, hb, int_beq]
  · simp [decide_eq_false c3]
theorem val_eq (x y : T_Val) : ((x.1 == y.1) && ((x.2.1 == y.2.1) && ((x.2.2.toList == y.2.2.toList) && true))) = decide (x = y) := by
  obtain ⟨a, b, s⟩ := x; obtain ⟨c, d, t⟩ := y
  simp only [text_eq, int_beq]
  by_cases h1 : a = c <;> by_cases h2 : b = d <;> by_cases h3 : s = t <;> simp [h1, h2, h3]
def cKeyLess : List T_Val → List T_Val → Bool
  | [], [] => false
  | [], _ :: _ => true
  | _ :: _, [] => false
  | x :: s, y :: t => if x = y then cKeyLess s t else cValLess x y
theorem spec_KeyLess_ok : EV fun n => ∀ x y : T_ValS, x.length ≤ 1048576 → spec_KeyLess n x y = some (cKeyLess x y) := (spec_ValLess_ok.and (EV.gt 1048576)).up fun n ⟨h, hn⟩ x y hx => by
  rw [spec_KeyLess]
  have key : ∀ (s : T_ValS) (j k : Nat), x.drop k = s → k ≤ x.length → k ≤ y.length → s.length < j → spec_KeyLess_L1 n j x y (k : Int) = some (cKeyLess s (y.drop k)) := by
    intro s
    induction s with
    | nil =>
      intro j k hd hk hky hj
      obtain ⟨j, rfl⟩ : ∃ i, j = i + 1 := ⟨j - 1, by simp at hj; omega⟩
      have : k = x.length := by
        rcases Nat.lt_or_ge k x.length with h' | h'
        · rw [List.drop_eq_getElem_cons h'] at hd; cases hd
        · omega
      subst this
      simp only [spec_KeyLess_L1, lt_cast, Nat.lt_irrefl, decide_false, cond_false]
      cases hy : y.drop x.length with
      | nil =>
        have : y.length ≤ x.length := List.drop_eq_nil_iff.mp hy
        rw [decide_eq_false (by omega)]; rfl
      | cons z t =>
        have : x.length < y.length := (drop_cons hy z).1
        rw [decide_eq_true this]; rfl
    | cons a s ih =>
      intro j k hd hk hky hj
      obtain ⟨j, rfl⟩ : ∃ i, j = i + 1 := ⟨j - 1, by simp at hj; omega⟩
      obtain ⟨h1, h2, h3⟩ := drop_cons hd (0, 0, E0)
      simp only [spec_KeyLess_L1, lt_cast, decide_eq_true h1, cond_true]
      cases hy : y.drop k with
      | nil =>
        have : y.length ≤ k := List.drop_eq_nil_iff.mp hy
        rw [decide_eq_false (by omega), cond_false, decide_eq_false (by omega)]; rfl
      | cons b t =>
        obtain ⟨g1, g2, g3⟩ := drop_cons hy (0, 0, E0)
        simp only [decide_eq_true g1, cond_true, inR_true h1, inR_true g1, Int.toNat_natCast, wrap_succ h1 (by omega)]
        rw [show x.getD k (0, 0, ⟨#[]⟩) = a from h2, show y.getD k (0, 0, ⟨#[]⟩) = b from g2, val_eq, h, ih j (k + 1) h3 (by omega) (by omega) (by simp at hj; omega), g3]
        simp only [cKeyLess, bif_step, Option.bind_some]
        by_cases e : a = b <;> simp [e]
  exact key x n 0 rfl (by omega) (by omega) (by omega)
theorem impl_KeyLess_L1_eq {n : Nat} (h : ∀ x y : T_Val, impl_ValLess n x.1 x.2.1 x.2.2 y.1 y.2.1 y.2.2 = spec_ValLess n x.1 x.2.1 x.2.2 y.1 y.2.1 y.2.2) : ∀ (j : Nat) (x y : T_ValS) (i : Int), impl_KeyLess_L1 n j x y i = spec_KeyLess_L1 n j x y i
  | 0, _, _, _ => rfl
  | j + 1, x, y, i => by simp only [impl_KeyLess_L1, spec_KeyLess_L1, h, impl_KeyLess_L1_eq h j]
theorem impl_KeyLess_ok : EV fun n => ∀ x y : T_ValS, x.length ≤ 1048576 → impl_KeyLess n x y = some (cKeyLess x y) := by
  obtain ⟨N, h⟩ := spec_KeyLess_ok.and (spec_ValLess_ok.and impl_ValLess_ok)
  refine ⟨N + 1, fun n hn x y hx => ?_⟩
  obtain ⟨m, rfl⟩ : ∃ m, n = m + 1 := ⟨n - 1, by omega⟩
  have h1 := (h (m + 1) (by omega)).1 x y hx
  have h2 := (h m (by omega)).2
  rw [spec_KeyLess] at h1
  rw [impl_KeyLess, impl_KeyLess_L1_eq (fun x y => by rw [h2.1, h2.2])]
  exact h1
def cColAt (cs : T_ColS) (name : ByteArray) : Int := idx (fun c => decide (c.1 = name)) cs
theorem spec_ColAt_ok : EV fun n => ∀ (a : ByteArray) (cs : T_ColS) (ks : T_StringS) (s : ByteArray), cs.length ≤ 1048576 → spec_ColAt n a cs ks s = some (cColAt cs s) := (EV.gt 1048576).up fun n hn a cs ks s hl => by
  rw [spec_ColAt]
  refine find_loop (fun c => decide (c.1 = s)) cs (fun j k => spec_ColAt_L1 n j s cs (cs.length : Int) (k : Int)) (fun j => by simp only [spec_ColAt_L1, lt_cast, Nat.lt_irrefl, decide_false, cond_false]) (fun j k hk => ?_) cs n 0 rfl (by omega) (by omega)
  simp only [spec_ColAt_L1, lt_cast, decide_eq_true hk, inR_true hk, Int.toNat_natCast, getD_at hk, cond_true, wrap_succ hk (by omega), text_eq]
  exact bif_step' _ _
theorem impl_ColAt_ok : EV fun n => ∀ (a : ByteArray) (cs : T_ColS) (ks : T_StringS) (s : ByteArray), cs.length ≤ 1048576 → impl_ColAt n a cs ks s = some (idx (fun c => decide (c.1 = s)) cs) :=
  ((EV.true.up (q := fun n => ∀ (x : T_Col) (s : ByteArray), impl_ColAt_1 n x.1 x.2.1 x.2.2.1 x.2.2.2.1 x.2.2.2.2.1 x.2.2.2.2.2.1 x.2.2.2.2.2.2 s = some (decide (x.1 = s))) fun n h x s => by simp only [impl_ColAt_1, text_eq]).and (EV.gt 1048576)).up
    (q := fun n => ∀ (cs : T_ColS) (s : ByteArray), cs.length ≤ 1048576 → slices_IndexFunc_impl_Col_impl_Col__impl_ColAt_1 n cs s = some (idx (fun c => decide (c.1 = s)) cs)) (fun n ⟨h, hn⟩ cs s hl => by
    rw [slices_IndexFunc_impl_Col_impl_Col__impl_ColAt_1]
    refine find_loop (fun c => decide (c.1 = s)) cs (fun j k => slices_IndexFunc_impl_Col_impl_Col__impl_ColAt_1_L1 n j cs s (cs.length : Int) (k : Int)) (fun j => by simp only [slices_IndexFunc_impl_Col_impl_Col__impl_ColAt_1_L1, lt_cast, Nat.lt_irrefl, decide_false, cond_false]) (fun j k hk => ?_) cs n 0 rfl (by omega) (by omega)
    simp only [slices_IndexFunc_impl_Col_impl_Col__impl_ColAt_1_L1, lt_cast, decide_eq_true hk, inR_true hk, Int.toNat_natCast, getD_at hk, cond_true, wrap_succ hk (by omega), h, Option.bind_some]
    exact bif_step' _ _) |>.up fun n h a cs ks s hl => by simp only [impl_ColAt, h cs s hl, Option.bind_some]
def keyStep (cs : T_ColS) (key : ByteArray) (last : Int) : Option Int := if last < cColAt cs key ∧ (cs.getD (cColAt cs key).toNat (E0, (0, (false, (false, null))))).2.2.1 = true then some (cColAt cs key) else none
def cTableOk (x : T_Table) : Bool :=
  cWordOk x.1 && decide (1 ≤ x.2.1.length ∧ x.2.1.length ≤ 8) && decide (1 ≤ x.2.2.length) && allFrom (fun c k => cColOk c && decide (cColAt x.2.1 c.1 = (k : Int))) x.2.1 0 && (runs (keyStep x.2.1) x.2.2 (-1)).isSome
theorem spec_TableOk_ok : EV fun n => ∀ x : T_Table, sm_Table 1048576 x → spec_TableOk n x.1 x.2.1 x.2.2 = some (cTableOk x) := (spec_WordOk_ok.and (spec_ColOk_ok.and (spec_ColAt_ok.and (EV.gt 1048576)))).up fun n ⟨h1, h2, h3, hn⟩ x hs => by
  obtain ⟨a, cs, ks⟩ := x
  obtain ⟨s1, s2, s3⟩ := hs
  have s1 : a.size ≤ 1048576 := s1
  have s2l : cs.length ≤ 1048576 := s2.1
  have s3l : ks.length ≤ 1048576 := s3.1
  have hL2 : spec_TableOk_L2 n n (-1) ks (ks.length : Int) 0 a cs ks = after (runs (keyStep cs) ks (-1)) (some false) fun _ => some true := by
    refine run_loop ks (keyStep cs) (fun j k s => spec_TableOk_L2 n j s ks (ks.length : Int) (k : Int) a cs ks) (fun _ => some true) (some false) (fun s => -1 ≤ s) (fun x hx s s' h h' => ?_) (fun j s _ => by simp only [spec_TableOk_L2, lt_cast, Nat.lt_irrefl, decide_false, cond_false]) (fun j k s hk hs => ?_) ks n 0 (-1) rfl (by omega) (by omega) (by decide)
    · simp only [keyStep] at h'; split at h'
      · obtain rfl := Option.some.inj h'; exact (idx_lt _ _).1
      · cases h'
    · simp only [spec_TableOk_L2, lt_cast, decide_eq_true hk, inR_true hk, Int.toNat_natCast, getD_at hk, cond_true, wrap_succ hk (by omega), h3 _ _ _ _ s2l, Option.bind_some, keyStep]
      obtain ⟨i1, i2⟩ : -1 ≤ cColAt cs ks[k] ∧ cColAt cs ks[k] < (cs.length : Int) := idx_lt _ _
      by_cases hc : cColAt cs ks[k] ≤ s
      · rw [decide_eq_true hc, if_neg (by omega)]; rfl
      · have : inR (cColAt cs ks[k]) cs.length = true := by simp only [inR]; exact decide_eq_true (by omega)
        rw [decide_eq_false hc, this]
        simp only [cond_false, cond_true]
        cases hb : (cs.getD (cColAt cs ks[k]).toNat (E0, (0, (false, (false, null))))).2.2.1
        · rw [show (cs.getD (cColAt cs ks[k]).toNat (⟨#[]⟩, (0, (false, (false, (0, (0, ⟨#[]⟩))))))).2.2.1 = false from hb]; simp [after]
        · rw [show (cs.getD (cColAt cs ks[k]).toNat (⟨#[]⟩, (0, (false, (false, (0, (0, ⟨#[]⟩))))))).2.2.1 = true from hb, if_pos ⟨by omega, rfl⟩]; rfl
  have hL1 : spec_TableOk_L1 n n cs (cs.length : Int) 0 a cs ks = if allFrom (fun c k => cColOk c && decide (cColAt cs c.1 = (k : Int))) cs 0 = true then (after (runs (keyStep cs) ks (-1)) (some false) fun _ => some true) else some false := by
    refine allFrom_loop _ cs (fun j k => spec_TableOk_L1 n j cs (cs.length : Int) (k : Int) a cs ks) _ (fun j => by simp only [spec_TableOk_L1, lt_cast, Nat.lt_irrefl, decide_false, cond_false, hL2]) (fun j k hk => ?_) cs n 0 rfl (by omega) (by omega)
    simp only [spec_TableOk_L1, lt_cast, decide_eq_true hk, inR_true hk, Int.toNat_natCast, getD_at hk, cond_true, wrap_succ hk (by omega), h3 _ _ _ _ s2l, Option.bind_some, h2 cs[k] (s2.2 _ (List.getElem_mem hk)), int_bne]
    by_cases e : cColAt cs cs[k].1 = (k : Int) <;> cases cColOk cs[k] <;> simp [e]
  simp only [spec_TableOk, h1 a s1, Option.bind_some, hL1, cTableOk]
  cases cWordOk a
  · simp
  by_cases c1 : (cs.length : Int) < 1
  · rw [decide_eq_true c1, decide_eq_false (show ¬ (1 ≤ cs.length ∧ cs.length ≤ 8) by omega)]; simp
  by_cases c2 : (8 : Int) < (cs.length : Int)
  · rw [decide_eq_false c1, decide_eq_true c2, decide_eq_false (show ¬ (1 ≤ cs.length ∧ cs.length ≤ 8) by omega)]; simp
  rw [decide_eq_false c1, decide_eq_false c2, decide_eq_true (show (1 ≤ cs.length ∧ cs.length ≤ 8) by omega)]
  by_cases c3 : (ks.length : Int) < 1
  · rw [decide_eq_true c3, decide_eq_false (show ¬ 1 ≤ ks.length by omega)]; simp
  rw [decide_eq_false c3, decide_eq_true (show 1 ≤ ks.length by omega)]
  simp only [Bool.not_true, cond_false, Bool.true_and]
  cases allFrom (fun c k => cColOk c && decide (cColAt cs c.1 = (k : Int))) cs 0
  · simp
  · cases runs (keyStep cs) ks (-1) <;> simp [after]
theorem impl_TableOk_ok : EV fun n => ∀ x : T_Table, sm_Table 1048576 x → impl_TableOk n x.1 x.2.1 x.2.2 = some (cTableOk x) := (impl_WordOk_ok.and (impl_ColOk_ok.and (impl_ColAt_ok.and (within_ok.and (EV.gt 1048576))))).up fun n ⟨h1, h2, h3, h4, hn⟩ x hs => by
  obtain ⟨a, cs, ks⟩ := x
  obtain ⟨s1, s2, s3⟩ := hs
  have s1 : a.size ≤ 1048576 := s1
  have s2l : cs.length ≤ 1048576 := s2.1
  have s3l : ks.length ≤ 1048576 := s3.1
  have h3 : ∀ s, impl_ColAt n a cs ks s = some (cColAt cs s) := fun s => h3 _ _ _ _ s2l
  have hL2 : impl_TableOk_L2 n n (-1) ks (ks.length : Int) 0 a cs ks = after (runs (keyStep cs) ks (-1)) (some false) fun _ => some (cWordOk a && decide (1 ≤ cs.length ∧ cs.length ≤ 8) && decide (1 ≤ ks.length)) := by
    refine run_loop ks (keyStep cs) (fun j k s => impl_TableOk_L2 n j s ks (ks.length : Int) (k : Int) a cs ks) (fun _ => some (cWordOk a && decide (1 ≤ cs.length ∧ cs.length ≤ 8) && decide (1 ≤ ks.length))) (some false) (fun s => -1 ≤ s) (fun x hx s s' h h' => ?_) (fun j s _ => ?_) (fun j k s hk hs => ?_) ks n 0 (-1) rfl (by omega) (by omega) (by decide)
    · simp only [keyStep] at h'; split at h'
      · obtain rfl := Option.some.inj h'; exact (idx_lt _ _).1
      · cases h'
    · simp only [impl_TableOk_L2, lt_cast, Nat.lt_irrefl, decide_false, cond_false, h1 a s1, h4, Option.bind_some]
      rw [show decide ((1 : Int) ≤ (cs.length : Int) ∧ (cs.length : Int) ≤ 8) = decide (1 ≤ cs.length ∧ cs.length ≤ 8) from decide_eq_decide.mpr (by omega), show decide ((0 : Int) < (ks.length : Int)) = decide (1 ≤ ks.length) from decide_eq_decide.mpr (by omega)]
      cases cWordOk a <;> cases decide (1 ≤ cs.length ∧ cs.length ≤ 8) <;> simp
    · simp only [impl_TableOk_L2, lt_cast, decide_eq_true hk, inR_true hk, Int.toNat_natCast, getD_at hk, cond_true, wrap_succ hk (by omega), h3, Option.bind_some, keyStep]
      obtain ⟨i1, i2⟩ : -1 ≤ cColAt cs ks[k] ∧ cColAt cs ks[k] < (cs.length : Int) := idx_lt _ _
      by_cases hc : cColAt cs ks[k] ≤ s
      · rw [decide_eq_true hc, if_neg (by omega)]; rfl
      · have : inR (cColAt cs ks[k]) cs.length = true := by simp only [inR]; exact decide_eq_true (by omega)
        rw [decide_eq_false hc, this]
        simp only [cond_false, cond_true]
        cases hb : (cs.getD (cColAt cs ks[k]).toNat (E0, (0, (false, (false, null))))).2.2.1
        · rw [show (cs.getD (cColAt cs ks[k]).toNat (⟨#[]⟩, (0, (false, (false, (0, (0, ⟨#[]⟩))))))).2.2.1 = false from hb]; simp [after]
        · rw [show (cs.getD (cColAt cs ks[k]).toNat (⟨#[]⟩, (0, (false, (false, (0, (0, ⟨#[]⟩))))))).2.2.1 = true from hb, if_pos ⟨by omega, rfl⟩]; rfl
  simp only [impl_TableOk]
  refine (allFrom_loop (fun c k => cColOk c && decide (cColAt cs c.1 = (k : Int))) cs (fun j k => impl_TableOk_L1 n j cs (cs.length : Int) (k : Int) a cs ks) _ (fun j => by simp only [impl_TableOk_L1, lt_cast, Nat.lt_irrefl, decide_false, cond_false]; exact hL2) (fun j k hk => ?_) cs n 0 rfl (by omega) (by omega)).trans ?_
  · simp only [impl_TableOk_L1, lt_cast, decide_eq_true hk, inR_true hk, Int.toNat_natCast, getD_at hk, cond_true, wrap_succ hk (by omega), h3, Option.bind_some, h2 cs[k] (s2.2 _ (List.getElem_mem hk)), int_bne]
    by_cases e : cColAt cs cs[k].1 = (k : Int) <;> cases cColOk cs[k] <;> simp [e]
  · simp only [cTableOk]
    cases allFrom (fun c k => cColOk c && decide (cColAt cs c.1 = (k : Int))) cs 0
    · simp
    · cases runs (keyStep cs) ks (-1) <;> simp [after]
def cCatStep (l : T_TableS) (t : T_Table) (k : Nat) : Bool := cTableOk t && (decide (k = 0) || Op.bytesLess (l.getD (k - 1) (E0, ([], []))).1.toList t.1.toList)
def cCatOk (l : T_TableS) : Bool := decide (l.length ≤ 6) && allFrom (cCatStep l) l 0
theorem pred_cast {k : Nat} (h : 0 < k) (h2 : k ≤ 1048576) : IntKind.wrap .i64 ((k : Int) - (1 : Int)) = ((k - 1 : Nat) : Int) := by rw [wrap64] <;> omega
theorem spec_CatOk_ok : EV fun n => ∀ l : T_TableS, sm_TableS 1048576 l → spec_CatOk n l = some (cCatOk l) := (spec_TableOk_ok.and (EV.gt 1048576)).up fun n ⟨h, hn⟩ l hs => by
  have hl := hs.1
  have key : spec_CatOk_L1 n n l (l.length : Int) 0 l = if allFrom (cCatStep l) l 0 = true then some true else some false := by
    refine allFrom_loop (cCatStep l) l (fun j k => spec_CatOk_L1 n j l (l.length : Int) (k : Int) l) _ (fun j => by simp only [spec_CatOk_L1, lt_cast, Nat.lt_irrefl, decide_false, cond_false]) (fun j k hk => ?_) l n 0 rfl (by omega) (by omega)
    simp only [spec_CatOk_L1, lt_cast, decide_eq_true hk, inR_true hk, Int.toNat_natCast, getD_at hk, cond_true, wrap_succ hk (by omega), h l[k] (hs.2 _ (List.getElem_mem hk)), Option.bind_some]
    by_cases ht : cTableOk l[k] = true
    · by_cases h0 : k = 0
      · subst h0
        have : cCatStep l l[0] 0 = true := by simp [cCatStep, ht]
        simp [ht, this]
      · have e : cCatStep l l[k] k = Op.bytesLess (l.getD (k - 1) (E0, ([], []))).1.toList l[k].1.toList := by simp [cCatStep, ht, h0]
        rw [decide_eq_true (show (0 : Int) < (k : Int) by omega), pred_cast (by omega) (by omega), inR_true (show k - 1 < l.length by omega), Int.toNat_natCast, ht, e]
        simp only [cond_true, Bool.not_true, cond_false]
        exact bif_step _ _
    · have : cCatStep l l[k] k = false := by simp [cCatStep, ht]
      simp [ht, this]
  simp only [spec_CatOk, cCatOk, key]
  by_cases c : (6 : Int) < (l.length : Int)
  · rw [decide_eq_true c, decide_eq_false (show ¬ l.length ≤ 6 by omega)]; rfl
  · rw [decide_eq_false c, decide_eq_true (show l.length ≤ 6 by omega)]
    cases allFrom (cCatStep l) l 0 <;> rfl
theorem col_eq (x y : T_Col) : ((x.1.toList == y.1.toList) && ((x.2.1 == y.2.1) && ((x.2.2.1 == y.2.2.1) && ((x.2.2.2.1 == y.2.2.2.1) && ((x.2.2.2.2.1 == y.2.2.2.2.1) && ((x.2.2.2.2.2.1 == y.2.2.2.2.2.1) && ((x.2.2.2.2.2.2.toList == y.2.2.2.2.2.2.toList) && true))))))) = decide (x = y) := by
  rw [val_eq x.2.2.2.2 y.2.2.2.2]
  obtain ⟨a, b, c, d, e⟩ := x; obtain ⟨a', b', c', d', e'⟩ := y
  simp only [text_eq, int_beq, Bool.beq_eq_decide_eq]
  by_cases h1 : a = a' <;> by_cases h2 : b = b' <;> by_cases h3 : c = c' <;> by_cases h4 : d = d' <;> by_cases h5 : e = e' <;> simp [h1, h2, h3, h4, h5, text_eq']
theorem slices_EqualCol_ok : EV fun n => ∀ x y : T_ColS, x.length ≤ 1048576 → slices_Equal_impl_Col_impl_Col n x y = some (decide (x = y)) := (EV.gt 1048576).up fun n hn x y hx => by
  rw [slices_Equal_impl_Col_impl_Col]
  by_cases hl : x.length = y.length
  · have : ((x.length : Int) != (y.length : Int)) = false := by simp [hl]
    simp only [this, cond_false]
    refine (eq_loop x y hl (fun j k => slices_Equal_impl_Col_impl_Col_L1 n j x y (x.length : Int) (k : Int)) (fun j => by simp only [slices_Equal_impl_Col_impl_Col_L1, lt_cast, Nat.lt_irrefl, decide_false, cond_false]) (fun j k hk hk2 => ?_) x n 0 rfl (by omega) (by omega)).trans (by simp)
    simp only [slices_Equal_impl_Col_impl_Col_L1, lt_cast, decide_eq_true hk, inR_true hk, inR_true hk2, Int.toNat_natCast, getD_at hk, getD_at hk2, cond_true, wrap_succ hk (by omega), col_eq]
    exact eq_step _ _ _
  · have : ((x.length : Int) != (y.length : Int)) = true := by simp; omega
    simp only [this, cond_true]
    congr 1; exact (decide_eq_false fun h => hl (by rw [h])).symm
theorem slices_EqualStr_ok : EV fun n => ∀ x y : List ByteArray, x.length ≤ 1048576 → slices_Equal_string_string n x y = some (decide (x = y)) := (EV.gt 1048576).up fun n hn x y hx => by
  rw [slices_Equal_string_string]
  by_cases hl : x.length = y.length
  · have : ((x.length : Int) != (y.length : Int)) = false := by simp [hl]
    simp only [this, cond_false]
    refine (eq_loop x y hl (fun j k => slices_Equal_string_string_L1 n j x y (x.length : Int) (k : Int)) (fun j => by simp only [slices_Equal_string_string_L1, lt_cast, Nat.lt_irrefl, decide_false, cond_false]) (fun j k hk hk2 => ?_) x n 0 rfl (by omega) (by omega)).trans (by simp)
    simp only [slices_Equal_string_string_L1, lt_cast, decide_eq_true hk, inR_true hk, inR_true hk2, Int.toNat_natCast, getD_at hk, getD_at hk2, cond_true, wrap_succ hk (by omega), text_eq]
    exact eq_step _ _ _
  · have : ((x.length : Int) != (y.length : Int)) = true := by simp; omega
    simp only [this, cond_true]
    congr 1; exact (decide_eq_false fun h => hl (by rw [h])).symm
def fitsS (c : T_Col) (v : T_Val) : Bool := cValOk v.1 v.2.1 v.2.2 && (if v.1 = 0 then !c.2.2.1 else decide (v.1 = c.2.1))
def CZ : T_Col := (E0, (0, (false, (false, null))))
def cRowIn (cs : T_ColS) (r : T_ValS) : Bool := decide (r.length = cs.length) && allFrom (fun c k => fitsS c (r.getD k null)) cs 0
def cKeyOf (cs : T_ColS) (ks : T_StringS) (r : T_ValS) : T_ValS := ks.map fun key => r.getD (cColAt cs key).toNat null
theorem runs_keys {cs : T_ColS} : ∀ {ks : T_StringS} {last : Int}, (runs (keyStep cs) ks last).isSome = true → -1 ≤ last → ∀ key ∈ ks, 0 ≤ cColAt cs key ∧ (cs.getD (cColAt cs key).toNat CZ).2.2.1 = true
  | [], _, _, _, key, h => by simp at h
  | x :: t, last, h, hl, key, hk => by
    simp only [runs, keyStep] at h
    split at h
    · rename_i hc
      rcases List.mem_cons.mp hk with rfl | hk
      · exact ⟨by omega, hc.2⟩
      · exact runs_keys h (idx_lt _ _).1 key hk
    · simp at h
theorem table_facts {x : T_Table} (h : cTableOk x = true) : (∀ key ∈ x.2.2, 0 ≤ cColAt x.2.1 key ∧ cColAt x.2.1 key < (x.2.1.length : Int) ∧ (x.2.1.getD (cColAt x.2.1 key).toNat CZ).2.2.1 = true) ∧ (∀ c ∈ x.2.1, cColOk c = true) ∧ x.2.1.length ≤ 8 ∧ 1 ≤ x.2.1.length := by
  simp only [cTableOk, Bool.and_eq_true, decide_eq_true_eq] at h
  obtain ⟨⟨⟨⟨h1, h2⟩, h3⟩, h4⟩, h5⟩ := h
  refine ⟨fun key hk => ?_, fun c hc => ?_, h2.2, h2.1⟩
  · obtain ⟨k1, k2⟩ := runs_keys h5 (by omega) key hk
    exact ⟨k1, (idx_lt _ _).2, k2⟩
  · obtain ⟨i, hi, rfl⟩ := List.mem_iff_getElem.mp hc
    have := (allFrom_iff _ _ _).mp h4 i hi
    simp only [Bool.and_eq_true] at this
    exact this.1
theorem col_ty {c : T_Col} (h : cColOk c = true) : 1 ≤ c.2.1 ∧ c.2.1 ≤ 3 := by
  simp only [cColOk, Bool.and_eq_true, decide_eq_true_eq] at h
  exact h.1.2
theorem keyOf_len (cs : T_ColS) (ks : T_StringS) (r : T_ValS) : (cKeyOf cs ks r).length = ks.length := by simp [cKeyOf]
theorem getD_null {r : T_ValS} {k : Nat} : r.getD k (0, (0, ⟨#[]⟩)) = r.getD k null := rfl
theorem inR_int {i : Int} {n : Nat} (h1 : 0 ≤ i) (h2 : i < (n : Int)) : inR i n = true := by simp only [inR]; exact decide_eq_true ⟨h1, h2⟩
theorem spec_l03Fits_ok : EV fun n => ∀ (c : T_Col) (v : T_Val), spec_l03Fits n c.1 c.2.1 c.2.2.1 c.2.2.2.1 c.2.2.2.2.1 c.2.2.2.2.2.1 c.2.2.2.2.2.2 v.1 v.2.1 v.2.2 = some (fitsS c v) := spec_ValOk_ok.up fun n h c v => by
  simp only [spec_l03Fits, h, Option.bind_some, fitsS, int_beq]
  by_cases h0 : v.1 = 0 <;> cases cValOk v.1 v.2.1 v.2.2 <;> simp [h0]
theorem impl_stands_ok : EV fun n => ∀ (c : T_Col) (v : T_Val), c.2.1 ≠ 0 → impl_stands n c.1 c.2.1 c.2.2.1 c.2.2.2.1 c.2.2.2.2.1 c.2.2.2.2.2.1 c.2.2.2.2.2.2 v.1 v.2.1 v.2.2 = some (fitsS c v) := impl_ValOk_ok.up fun n h c v hc => by
  simp only [impl_stands, h, Option.bind_some, fitsS, int_beq]
  cases cValOk v.1 v.2.1 v.2.2
  · simp
  · by_cases h0 : v.1 = 0
    · have : ¬ (0 : Int) = c.2.1 := fun e => hc e.symm
      simp [h0, this]
    · by_cases h1 : v.1 = c.2.1 <;> simp [h0, h1]
      exact .inl hc
theorem spec_RowOk_ok : EV fun n => ∀ (x : T_Table) (r : T_ValS), sm_Table 1048576 x → spec_RowOk n x.1 x.2.1 x.2.2 r = some (cTableOk x && cRowIn x.2.1 r) := (spec_TableOk_ok.and (spec_l03Fits_ok.and (EV.gt 1048576))).up fun n ⟨h1, h2, hn⟩ x r hs => by
  have lc := hs.2.1.1
  simp only [spec_RowOk, h1 x hs, Option.bind_some, int_bne, cRowIn]
  cases cTableOk x
  · simp
  by_cases hl : r.length = x.2.1.length
  · have hl' : ((r.length : Int) = (x.2.1.length : Int)) = True := eq_true (by omega)
    simp only [Bool.not_true, cond_false, hl', decide_true, hl, Bool.true_and]
    refine (allFrom_loop (fun c k => fitsS c (r.getD k null)) x.2.1 (fun j k => spec_RowOk_L1 n j x.2.1 (x.2.1.length : Int) (k : Int) r) (some true) (fun j => by simp only [spec_RowOk_L1, lt_cast, Nat.lt_irrefl, decide_false, cond_false]) (fun j k hk => ?_) x.2.1 n 0 rfl (by omega) (by omega)).trans ?_
    · have hk2 : k < r.length := by omega
      simp only [spec_RowOk_L1, lt_cast, decide_eq_true hk, inR_true hk, inR_true hk2, Int.toNat_natCast, getD_at hk, cond_true, wrap_succ hk (by omega), h2, Option.bind_some, getD_null]
      exact bif_step _ _
    · cases allFrom (fun c k => fitsS c (r.getD k null)) x.2.1 0 <;> rfl
  · have hl' : ¬ (r.length : Int) = (x.2.1.length : Int) := by omega
    simp [hl, hl']
theorem impl_rowOk_ok : EV fun n => ∀ (x : T_Table) (r : T_ValS), sm_Table 1048576 x → cTableOk x = true → impl_rowOk n x.1 x.2.1 x.2.2 r = some (cRowIn x.2.1 r) := (impl_stands_ok.and (EV.gt 1048576)).up fun n ⟨h2, hn⟩ x r hs ht => by
  have lc := hs.2.1.1
  obtain ⟨_, hcol, _⟩ := table_facts ht
  simp only [impl_rowOk, int_bne, cRowIn]
  by_cases hl : r.length = x.2.1.length
  · have hl' : ((r.length : Int) = (x.2.1.length : Int)) = True := eq_true (by omega)
    simp only [Bool.not_true, cond_false, hl', decide_true, hl, Bool.true_and]
    refine (allFrom_loop (fun v k => fitsS (x.2.1.getD k CZ) v) r (fun j k => impl_rowOk_L1 n j r (x.2.1.length : Int) (k : Int) x.1 x.2.1 x.2.2) (some true) (fun j => by rw [hl]; simp only [impl_rowOk_L1, lt_cast, Nat.lt_irrefl, decide_false, cond_false]) (fun j k hk => ?_) r n 0 rfl (by omega) (by omega)).trans ?_
    · have hk2 : k < x.2.1.length := by omega
      simp only [impl_rowOk_L1, lt_cast, decide_eq_true hk2, inR_true hk, inR_true hk2, Int.toNat_natCast, getD_at hk, getD_at hk2, cond_true, wrap_succ hk (by omega)]
      rw [h2 x.2.1[k] r[k] (by have := col_ty (hcol _ (List.getElem_mem hk2)); omega)]
      exact bif_step _ _
    · have : allFrom (fun v k => fitsS (x.2.1.getD k CZ) v) r 0 = allFrom (fun c k => fitsS c (r.getD k null)) x.2.1 0 := by
        rw [Bool.eq_iff_iff, allFrom_iff, allFrom_iff]
        constructor
        · intro h i hi
          have := h i (by omega)
          rw [Nat.zero_add, getD_at hi] at this
          rw [Nat.zero_add, getD_at (show i < r.length by omega)]; exact this
        · intro h i hi
          have := h i (by omega)
          rw [Nat.zero_add, getD_at hi] at this
          rw [Nat.zero_add, getD_at (show i < x.2.1.length by omega)]; exact this
      rw [this]
      cases allFrom (fun c k => fitsS c (r.getD k null)) x.2.1 0 <;> rfl
  · have hl' : ¬ (r.length : Int) = (x.2.1.length : Int) := by omega
    simp [hl, hl']
theorem spec_l03Key_ok : EV fun n => ∀ (x : T_Table) (r : T_ValS), sm_Table 1048576 x → cTableOk x = true → r.length = x.2.1.length → spec_l03Key n x.1 x.2.1 x.2.2 r = some (cKeyOf x.2.1 x.2.2 r) := (spec_ColAt_ok.and (EV.gt 1048576)).up fun n ⟨h1, hn⟩ x r hs ht hr => by
  have lk := hs.2.2.1
  obtain ⟨hkey, _⟩ := table_facts ht
  rw [spec_l03Key]
  refine (map_loop x.2.2 (fun key => r.getD (cColAt x.2.1 key).toNat null) (fun j k s => spec_l03Key_L1 n j x.2.2 (x.2.2.length : Int) (k : Int) x.1 x.2.1 x.2.2 r s) (fun j s => by simp only [spec_l03Key_L1, lt_cast, Nat.lt_irrefl, decide_false, cond_false]) (fun j k s hk hsl => ?_) x.2.2 n 0 [] rfl (by omega) (by omega) rfl).trans (by simp [cKeyOf])
  obtain ⟨k1, k2, k3⟩ := hkey _ (List.getElem_mem hk)
  have hroom : room (s.length + 1) 32 = true := by simp [room]; omega
  simp only [spec_l03Key_L1, lt_cast, decide_eq_true hk, inR_true hk, Int.toNat_natCast, getD_at hk, cond_true, wrap_succ hk (by omega), h1 _ _ _ _ hs.2.1.1, Option.bind_some, getD_null, inR_int k1 (show cColAt x.2.1 x.2.2[k] < (r.length : Int) by omega), List.length_cons, List.length_nil, Nat.zero_add, hroom]
theorem impl_keyOf_ok : EV fun n => ∀ (x : T_Table) (r : T_ValS), sm_Table 1048576 x → cTableOk x = true → r.length = x.2.1.length → impl_keyOf n x.1 x.2.1 x.2.2 r = some (cKeyOf x.2.1 x.2.2 r) := (impl_ColAt_ok.and (EV.gt 1048576)).up fun n ⟨h1, hn⟩ x r hs ht hr => by
  have lk := hs.2.2.1
  have h1 : ∀ s, impl_ColAt n x.1 x.2.1 x.2.2 s = some (cColAt x.2.1 s) := fun s => h1 _ _ _ _ hs.2.1.1
  obtain ⟨hkey, _⟩ := table_facts ht
  rw [impl_keyOf]
  refine (map_loop x.2.2 (fun key => r.getD (cColAt x.2.1 key).toNat null) (fun j k s => impl_keyOf_L1 n j x.2.2 (x.2.2.length : Int) (k : Int) x.1 x.2.1 x.2.2 r s) (fun j s => by simp only [impl_keyOf_L1, lt_cast, Nat.lt_irrefl, decide_false, cond_false]) (fun j k s hk hsl => ?_) x.2.2 n 0 [] rfl (by omega) (by omega) rfl).trans (by simp [cKeyOf])
  obtain ⟨k1, k2, k3⟩ := hkey _ (List.getElem_mem hk)
  have hroom : room (s.length + 1) 32 = true := by simp [room]; omega
  simp only [impl_keyOf_L1, lt_cast, decide_eq_true hk, inR_true hk, Int.toNat_natCast, getD_at hk, cond_true, wrap_succ hk (by omega), h1, Option.bind_some, getD_null, inR_int k1 (show cColAt x.2.1 x.2.2[k] < (r.length : Int) by omega), List.length_cons, List.length_nil, Nat.zero_add, hroom]
def cRowsStep (x : T_Table) (l : T_RowS) (r : T_Row) (k : Nat) : Bool := cRowIn x.2.1 r && (decide (k = 0) || cKeyLess (cKeyOf x.2.1 x.2.2 (l.getD (k - 1) [])) (cKeyOf x.2.1 x.2.2 r))
def cRowsOk (x : T_Table) (l : T_RowS) : Bool := cTableOk x && decide (l.length ≤ 60) && allFrom (cRowsStep x l) l 0
theorem rowIn_len {cs : T_ColS} {r : T_ValS} (h : cRowIn cs r = true) : r.length = cs.length := by
  simp only [cRowIn, Bool.and_eq_true, decide_eq_true_eq] at h; exact h.1
theorem rows_in {x : T_Table} {l : T_RowS} (h : cRowsOk x l = true) : cTableOk x = true ∧ l.length ≤ 60 ∧ ∀ r ∈ l, cRowIn x.2.1 r = true := by
  simp only [cRowsOk, Bool.and_eq_true, decide_eq_true_eq] at h
  refine ⟨h.1.1, h.1.2, fun r hr => ?_⟩
  obtain ⟨i, hi, rfl⟩ := List.mem_iff_getElem.mp hr
  have := (allFrom_iff _ _ _).mp h.2 i hi
  simp only [cRowsStep, Bool.and_eq_true] at this
  exact this.1
theorem spec_RowsOk_ok : EV fun n => ∀ (x : T_Table) (l : T_RowS), sm_Table 1048576 x → l.length ≤ 1048576 → spec_RowsOk n x.1 x.2.1 x.2.2 l = some (cRowsOk x l) := (spec_TableOk_ok.and (spec_RowOk_ok.and (spec_l03Key_ok.and (spec_KeyLess_ok.and (EV.gt 1048576))))).up fun n ⟨h1, h2, h3, h4, hn⟩ x l hs hl => by
  simp only [spec_RowsOk, h1 x hs, Option.bind_some, cRowsOk]
  by_cases ht : cTableOk x = true
  · simp only [ht, Bool.not_true, cond_false, Bool.true_and]
    by_cases c : (60 : Int) < (l.length : Int)
    · rw [decide_eq_true c, decide_eq_false (show ¬ l.length ≤ 60 by omega)]; rfl
    · rw [decide_eq_false c, decide_eq_true (show l.length ≤ 60 by omega)]
      simp only [cond_false, Bool.true_and]
      refine (allFrom_loopQ (cRowsStep x l) (fun k => ∀ i, i < k → ∀ h : i < l.length, cRowIn x.2.1 l[i] = true) l (fun j k => spec_RowsOk_L1 n j l l (l.length : Int) (k : Int) x.1 x.2.1 x.2.2) (some true) (fun j => by simp only [spec_RowsOk_L1, lt_cast, Nat.lt_irrefl, decide_false, cond_false]) (fun k hk hq hp i hi h => ?_) (fun j k hk hq => ?_) l n 0 rfl (by omega) (by omega) (fun i hi => by omega)).trans ?_
      · by_cases e : i < k
        · exact hq i e h
        · obtain rfl : i = k := by omega
          simp only [cRowsStep, Bool.and_eq_true] at hp
          exact hp.1
      · simp only [spec_RowsOk_L1, lt_cast, decide_eq_true hk, inR_true hk, Int.toNat_natCast, getD_at hk, cond_true, wrap_succ hk (by omega), h2 x l[k] hs, ht, Bool.true_and, Option.bind_some]
        by_cases hr : cRowIn x.2.1 l[k] = true
        · by_cases h0 : k = 0
          · subst h0
            have : cRowsStep x l l[0] 0 = true := by simp [cRowsStep, hr]
            simp [hr, this]
          · have hk1 : k - 1 < l.length := by omega
            have e : cRowsStep x l l[k] k = cKeyLess (cKeyOf x.2.1 x.2.2 l[k - 1]) (cKeyOf x.2.1 x.2.2 l[k]) := by simp only [cRowsStep, hr, decide_eq_false h0, Bool.true_and, Bool.false_or, getD_at hk1]
            have hprev := hq (k - 1) (by omega) hk1
            rw [decide_eq_true (show (0 : Int) < (k : Int) by omega), pred_cast (by omega) (by omega), inR_true hk1, Int.toNat_natCast, hr, e, getD_at hk1, h3 x _ hs ht (rowIn_len hprev), h3 x _ hs ht (rowIn_len hr)]
            simp only [cond_true, Bool.not_true, cond_false, Option.bind_some]
            rw [h4 _ _ (by rw [keyOf_len]; exact hs.2.2.1)]
            exact bif_step _ _
        · have : cRowsStep x l l[k] k = false := by simp [cRowsStep, hr]
          simp [hr, this]
      · cases allFrom (cRowsStep x l) l 0 <;> rfl
  · simp [ht]
theorem impl_RowsOk_ok : EV fun n => ∀ (x : T_Table) (l : T_RowS), sm_Table 1048576 x → l.length ≤ 1048576 → impl_RowsOk n x.1 x.2.1 x.2.2 l = some (cRowsOk x l) := (impl_TableOk_ok.and (impl_rowOk_ok.and (impl_keyOf_ok.and (impl_KeyLess_ok.and (EV.gt 1048576))))).up fun n ⟨h1, h2, h3, h4, hn⟩ x l hs hl => by
  simp only [impl_RowsOk, h1 x hs, Option.bind_some, cRowsOk]
  by_cases ht : cTableOk x = true
  · simp only [ht, Bool.not_true, cond_false, Bool.true_and]
    by_cases c : (60 : Int) < (l.length : Int)
    · rw [decide_eq_true c, decide_eq_false (show ¬ l.length ≤ 60 by omega)]; rfl
    · rw [decide_eq_false c, decide_eq_true (show l.length ≤ 60 by omega)]
      simp only [cond_false, Bool.true_and]
      refine (allFrom_loopQ (cRowsStep x l) (fun k => ∀ i, i < k → ∀ h : i < l.length, cRowIn x.2.1 l[i] = true) l (fun j k => impl_RowsOk_L1 n j l l (l.length : Int) (k : Int) x.1 x.2.1 x.2.2) (some true) (fun j => by simp only [impl_RowsOk_L1, lt_cast, Nat.lt_irrefl, decide_false, cond_false]) (fun k hk hq hp i hi h => ?_) (fun j k hk hq => ?_) l n 0 rfl (by omega) (by omega) (fun i hi => by omega)).trans ?_
      · by_cases e : i < k
        · exact hq i e h
        · obtain rfl : i = k := by omega
          simp only [cRowsStep, Bool.and_eq_true] at hp
          exact hp.1
      · simp only [impl_RowsOk_L1, lt_cast, decide_eq_true hk, inR_true hk, Int.toNat_natCast, getD_at hk, cond_true, wrap_succ hk (by omega), h2 x l[k] hs ht, Option.bind_some]
        by_cases hr : cRowIn x.2.1 l[k] = true
        · by_cases h0 : k = 0
          · subst h0
            have : cRowsStep x l l[0] 0 = true := by simp [cRowsStep, hr]
            simp [hr, this]
          · have hk1 : k - 1 < l.length := by omega
            have e : cRowsStep x l l[k] k = cKeyLess (cKeyOf x.2.1 x.2.2 l[k - 1]) (cKeyOf x.2.1 x.2.2 l[k]) := by simp only [cRowsStep, hr, decide_eq_false h0, Bool.true_and, Bool.false_or, getD_at hk1]
            have hprev := hq (k - 1) (by omega) hk1
            rw [decide_eq_true (show (0 : Int) < (k : Int) by omega), pred_cast (by omega) (by omega), inR_true hk1, Int.toNat_natCast, hr, e, getD_at hk1, h3 x _ hs ht (rowIn_len hprev), h3 x _ hs ht (rowIn_len hr)]
            simp only [cond_true, Bool.not_true, cond_false, Option.bind_some]
            rw [h4 _ _ (by rw [keyOf_len]; exact hs.2.2.1)]
            exact bif_step _ _
        · have : cRowsStep x l l[k] k = false := by simp [cRowsStep, hr]
          simp [hr, this]
      · cases allFrom (cRowsStep x l) l 0 <;> rfl
  · simp [ht]
theorem idx_any {α : Type} (p : α → Bool) : ∀ (l : List α) (k : Nat), decide ((0 : Int) ≤ idxFrom p l k) = l.any p
  | [], _ => rfl
  | x :: t, k => by
    simp only [idxFrom, List.any_cons]
    by_cases h : p x = true
    · simp [h]
    · simp only [h, Bool.false_or]; exact idx_any p t (k + 1)
def cDdlOk (d : T_Ddl) : Bool := cWordOk d.2.1 && (
  if d.1 = 1 then decide (d.2.2.2.2.1 = E0) && decide (d.2.2.2.2.2 = E0) && cTableOk (d.2.1, (d.2.2.1, d.2.2.2.1)) else
  if d.1 = 2 then d.2.2.1.isEmpty && d.2.2.2.1.isEmpty && decide (d.2.2.2.2.1 = E0) && decide (d.2.2.2.2.2 = E0) else
  if d.1 = 3 then (match d.2.2.1 with
    | [c] => cColOk c && (c.2.2.2.1 || !c.2.2.1) && d.2.2.2.1.isEmpty && decide (d.2.2.2.2.1 = E0) && decide (d.2.2.2.2.2 = E0)
    | _ => false) else
  if d.1 = 4 then d.2.2.1.isEmpty && d.2.2.2.1.isEmpty && cWordOk d.2.2.2.2.1 && decide (d.2.2.2.2.2 = E0) else
  if d.1 = 5 then d.2.2.1.isEmpty && d.2.2.2.1.isEmpty && cWordOk d.2.2.2.2.1 && cWordOk d.2.2.2.2.2 else false)
theorem inR0 {n : Nat} : inR (0 : Int) (n + 1) = true := by simp [inR]
theorem spec_DdlOk_ok : EV fun n => ∀ d : T_Ddl, sm_Ddl 1048576 d → spec_DdlOk n d.1 d.2.1 d.2.2.1 d.2.2.2.1 d.2.2.2.2.1 d.2.2.2.2.2 = some (cDdlOk d) := (spec_WordOk_ok.and (spec_TableOk_ok.and spec_ColOk_ok)).up fun n ⟨h1, h2, h3⟩ d hs => by
  obtain ⟨k, tb, cs, ks, nm, to⟩ := d
  obtain ⟨s1, s2, s3, s4, s5⟩ := hs
  have e2 := h2 (tb, cs, ks) ⟨s1, s2, s3⟩
  simp only at s1 s2 s3 s4 s5 e2
  simp only [spec_DdlOk, h1 tb s1, h1 nm s4, h1 to s5, e2, text_eq, int_beq, Option.bind_some, cDdlOk]
  have hk : ((ks.length : Int) = 0) = (ks.isEmpty = true) := by cases ks <;> simp <;> omega
  have hc : ((cs.length : Int) = 0) = (cs.isEmpty = true) := by cases cs <;> simp <;> omega
  simp only [hk, hc]
  generalize ks.isEmpty = b1
  change _ = some (cWordOk tb && (if k = 1 then decide (nm = E0) && decide (to = E0) && cTableOk (tb, cs, ks) else _))
  generalize decide (nm = (⟨#[]⟩ : ByteArray)) = b2
  generalize decide (to = (⟨#[]⟩ : ByteArray)) = b3
  cases cWordOk tb
  · rfl
  by_cases k1 : k = 1
  · subst k1
    rcases cs with _ | ⟨c, t⟩ <;> cases b2 <;> cases b3 <;> simp
  by_cases k2 : k = 2
  · subst k2
    rcases cs with _ | ⟨c, t⟩ <;> cases b1 <;> cases b2 <;> simp
  by_cases k3 : k = 3
  · subst k3
    rcases cs with _ | ⟨c, _ | ⟨d, t⟩⟩
    · simp
    · have e3 := h3 c (s2.2 c (by simp))
      simp [e3, inR]
      cases cColOk c <;> cases c.2.2.2.1 <;> cases c.2.2.1 <;> cases b1 <;> cases b2 <;> simp
    · have : ¬ ((t.length : Int) + 1 + 1 = 1) := by omega
      simp [this]
  by_cases k4 : k = 4
  · subst k4
    rcases cs with _ | ⟨c, t⟩ <;> cases b1 <;> cases cWordOk nm <;> simp
  by_cases k5 : k = 5
  · subst k5
    rcases cs with _ | ⟨c, t⟩ <;> cases b1 <;> cases cWordOk nm <;> simp
  rcases cs with _ | ⟨c, t⟩ <;> simp [k1, k2, k3, k4, k5]
theorem impl_copyTexts_ok : EV fun n => ∀ l : List ByteArray, l.length ≤ 1048576 → impl_copyTexts n l = some l := EV.true.up fun n _ l hl => by
  have hroom : room l.length 16 = true := by simp [room]; omega
  simp only [impl_copyTexts, hroom, cond_true]
theorem impl_copyTable_ok : EV fun n => ∀ x : T_Table, sm_Table 1048576 x → impl_copyTable n x.1 x.2.1 x.2.2 = some x := impl_copyTexts_ok.up fun n h x hs => by
  have hl : x.2.1.length ≤ 1048576 := hs.2.1.1
  have hroom : room x.2.1.length 64 = true := by simp [room]; omega
  have hroom2 : room x.2.1.length 72 = true := by simp [room]; omega
  have hroom3 : room x.2.1.length 80 = true := by simp [room]; omega
  simp only [impl_copyTable, hroom, cond_true, h _ hs.2.2.1, Option.bind_some]
theorem impl_Ddl_made_ok : EV fun n => ∀ d : T_Ddl, sm_Ddl 1048576 d → impl_Ddl_made n d.1 d.2.1 d.2.2.1 d.2.2.2.1 d.2.2.2.2.1 d.2.2.2.2.2 = some (d.2.1, (d.2.2.1, d.2.2.2.1)) := impl_copyTable_ok.up fun n h d hs => by
  have := h (d.2.1, (d.2.2.1, d.2.2.2.1)) ⟨hs.1, hs.2.1, hs.2.2.1⟩
  simp only at this
  simp only [impl_Ddl_made, this, Option.bind_some]
theorem impl_equalDdl_ok : EV fun n => ∀ d e : T_Ddl, sm_Ddl 1048576 d → impl_equalDdl n d.1 d.2.1 d.2.2.1 d.2.2.2.1 d.2.2.2.2.1 d.2.2.2.2.2 e.1 e.2.1 e.2.2.1 e.2.2.2.1 e.2.2.2.2.1 e.2.2.2.2.2 = some (decide (d = e)) := (slices_EqualCol_ok.and slices_EqualStr_ok).up fun n ⟨h1, h2⟩ d e hs => by
  obtain ⟨k, tb, cs, ks, nm, to⟩ := d; obtain ⟨k', tb', cs', ks', nm', to'⟩ := e
  have e1 := h1 cs cs' hs.2.1.1
  have e2 := h2 ks ks' hs.2.2.1.1
  simp only [impl_equalDdl, e1, e2, text_eq, int_beq, Option.bind_some]
  by_cases a1 : k = k' <;> by_cases a2 : tb = tb' <;> by_cases a3 : cs = cs' <;> by_cases a4 : ks = ks' <;> by_cases a5 : nm = nm' <;> by_cases a6 : to = to' <;> simp [a1, a2, a3, a4, a5, a6]
theorem impl_DdlOk_ok : EV fun n => ∀ d : T_Ddl, sm_Ddl 1048576 d → impl_DdlOk n d.1 d.2.1 d.2.2.1 d.2.2.2.1 d.2.2.2.2.1 d.2.2.2.2.2 = some (cDdlOk d) := (impl_WordOk_ok.and (impl_TableOk_ok.and (impl_ColOk_ok.and (impl_Ddl_made_ok.and impl_equalDdl_ok)))).up fun n ⟨h1, h2, h3, h4, h5⟩ d hs => by
  obtain ⟨k, tb, cs, ks, nm, to⟩ := d
  have e4 := h4 _ hs
  have e5 := fun cs' ks' nm' to' => h5 (k, tb, cs, ks, nm, to) (k, tb, cs', ks', nm', to') hs
  obtain ⟨s1, s2, s3, s4, s5⟩ := hs
  have e2 := h2 (tb, cs, ks) ⟨s1, s2, s3⟩
  simp only at s1 s2 s3 s4 s5 e2 e4 e5
  simp only [impl_DdlOk, h1 tb s1, h1 nm s4, h1 to s5, e2, e4, e5, text_eq, int_beq, Option.bind_some, cDdlOk, Prod.mk.injEq, true_and]
  cases cWordOk tb
  · rfl
  by_cases k1 : k = 1
  · subst k1
    cases cTableOk (tb, cs, ks) <;> by_cases a5 : nm = E0 <;> by_cases a6 : to = E0 <;> simp [a5, a6]
  have ec : ∀ {α : Type} (l : List α), l.isEmpty = decide (l = []) := fun l => by cases l <;> rfl
  rw [ec cs, ec ks]
  by_cases k2 : k = 2
  · subst k2
    by_cases a3 : cs = [] <;> by_cases a4 : ks = [] <;> by_cases a5 : nm = E0 <;> by_cases a6 : to = E0 <;> simp [a3, a4, a5, a6]
  by_cases k3 : k = 3
  · subst k3
    rcases cs with _ | ⟨c, _ | ⟨d, t⟩⟩
    · simp
    · have e3 := h3 c (s2.2 c (by simp))
      simp [e3, inR]
      cases cColOk c <;> cases c.2.2.2.1 <;> cases c.2.2.1 <;> by_cases a4 : ks = [] <;> by_cases a5 : nm = E0 <;> by_cases a6 : to = E0 <;> simp [a4, a5, a6]
    · have : ¬ ((t.length : Int) + 1 + 1 = 1) := by omega
      simp [this]
  by_cases k4 : k = 4
  · subst k4
    by_cases a3 : cs = [] <;> by_cases a4 : ks = [] <;> by_cases a6 : to = E0 <;> cases cWordOk nm <;> simp [a3, a4, a6]
  by_cases k5 : k = 5
  · subst k5
    by_cases a3 : cs = [] <;> by_cases a4 : ks = [] <;> cases cWordOk nm <;> simp [a3, a4]
  simp [k1, k2, k3, k4, k5]
theorem allFrom_get {α : Type} {p : α → Nat → Bool} {l : List α} (h : allFrom p l 0 = true) {i : Nat} (hi : i < l.length) : p l[i] i = true := by
  have := (allFrom_iff p l 0).mp h i hi
  rwa [Nat.zero_add] at this
theorem cat_facts {l : T_TableS} (h : cCatOk l = true) : l.length ≤ 6 ∧ ∀ t ∈ l, cTableOk t = true := by
  simp only [cCatOk, Bool.and_eq_true, decide_eq_true_eq] at h
  refine ⟨h.1, fun t ht => ?_⟩
  obtain ⟨i, hi, rfl⟩ := List.mem_iff_getElem.mp ht
  have := allFrom_get h.2 hi
  simp only [cCatStep, Bool.and_eq_true] at this
  exact this.1
theorem ddlOk_3 {d : T_Ddl} (h : cDdlOk d = true) (k : d.1 = 3) : ∃ c, d.2.2.1 = [c] ∧ cColOk c = true := by
  simp only [cDdlOk, Bool.and_eq_true] at h
  have h2 := h.2
  rw [if_neg (by omega), if_neg (by omega), if_pos k] at h2
  cases e : d.2.2.1 with
  | nil => rw [e] at h2; cases h2
  | cons c t =>
    cases t with
    | nil => rw [e] at h2; simp only [Bool.and_eq_true] at h2; exact ⟨c, rfl, h2.1.1.1.1⟩
    | cons => rw [e] at h2; cases h2
theorem spec_l02At_ok : EV fun n => ∀ (l : T_TableS) (s : ByteArray), l.length ≤ 1048576 → spec_l02At n l s = some (idx (fun t => decide (t.1 = s)) l) := (EV.gt 1048577).up fun n hn l s hl => by
  rw [spec_l02At]
  refine find_loop (fun t => decide (t.1 = s)) l (fun j k => spec_l02At_L1 n j s l (l.length : Int) (k : Int)) (fun j => ?_) (fun j k hk => ?_) l n 0 rfl (by omega) (by omega)
  · simp only [spec_l02At_L1, lt_cast, Nat.lt_irrefl, decide_false, cond_false]
  · simp only [spec_l02At_L1, lt_cast, decide_eq_true hk, inR_true hk, Int.toNat_natCast, getD_at hk, cond_true, wrap_succ hk (by omega), text_eq]
    exact bif_step' _ _
theorem spec_l02Table_ok : EV fun n => ∀ x : T_Table, sm_Table 1048576 x → spec_l02Table n x.1 x.2.1 x.2.2 = some x := EV.true.up fun n _ x hs => by
  have h1 := hs.2.1.1
  have h2 := hs.2.2.1
  have r1 : room (([] : T_ColS).length + x.2.1.length) 64 = true := by simp only [room, decide_eq_true_eq, List.length_nil]; omega
  have r2 : room (([] : List ByteArray).length + x.2.2.length) 16 = true := by simp only [room, decide_eq_true_eq, List.length_nil]; omega
  simp only [spec_l02Table, r1, r2, cond_true, List.nil_append]
theorem impl_Cat_at_ok : EV fun n => ∀ (l : T_TableS) (s : ByteArray), l.length ≤ 1048576 → impl_Cat_at n l s = some (idx (fun t => decide (t.1 = s)) l) := by
  have h0 : EV fun n => ∀ (l : T_TableS) (s : ByteArray), l.length ≤ 1048576 → slices_IndexFunc_impl_Table_impl_Table__impl_Cat_at_1 n l s = some (idx (fun t => decide (t.1 = s)) l) := (((EV.gt 0).up (q := fun n => ∀ (t : T_Table) (s : ByteArray), impl_Cat_at_1 n t.1 t.2.1 t.2.2 s = some (decide (t.1 = s))) fun n _ t s => by simp only [impl_Cat_at_1, text_eq]).and (EV.gt 1048577)).up fun n ⟨h, hn⟩ l s hl => by
    rw [slices_IndexFunc_impl_Table_impl_Table__impl_Cat_at_1]
    refine find_loop (fun t => decide (t.1 = s)) l (fun j k => slices_IndexFunc_impl_Table_impl_Table__impl_Cat_at_1_L1 n j l s (l.length : Int) (k : Int)) (fun j => ?_) (fun j k hk => ?_) l n 0 rfl (by omega) (by omega)
    · simp only [slices_IndexFunc_impl_Table_impl_Table__impl_Cat_at_1_L1, lt_cast, Nat.lt_irrefl, decide_false, cond_false]
    · simp only [slices_IndexFunc_impl_Table_impl_Table__impl_Cat_at_1_L1, lt_cast, decide_eq_true hk, inR_true hk, Int.toNat_natCast, getD_at hk, cond_true, wrap_succ hk (by omega), h, Option.bind_some]
      exact bif_step' _ _
  exact h0.up fun n h l s hl => by simp only [impl_Cat_at, h l s hl, Option.bind_some]
def noTable : T_Table := (E0, ([], []))
theorem impl_copyVals_ok : EV fun n => ∀ r : T_ValS, r.length ≤ 1048576 → impl_copyVals n r = some r := EV.true.up fun n _ r hr => by
  have r1 : room r.length 32 = true := by simp only [room, decide_eq_true_eq]; omega
  have r2 : room (([] : T_ValS).length + r.length) 32 = true := by simp only [room, decide_eq_true_eq, List.length_nil]; omega
  simp [impl_copyVals, r1]
theorem impl_copyRows_ok : EV fun n => ∀ l : T_RowS, sm_RowS 1048576 l → impl_copyRows n l = some l := (impl_copyVals_ok.and (EV.gt 1048577)).up fun n ⟨h, hn⟩ l hs => by
  have hl := hs.1
  simp only [impl_copyRows]
  refine (map_loop l id (fun j k acc => impl_copyRows_L1 n j l (l.length : Int) (k : Int) acc) (fun j acc => ?_) (fun j k acc hk ha => ?_) l n 0 [] rfl (by omega) (by omega) rfl).trans (by simp)
  · simp only [impl_copyRows_L1, lt_cast, Nat.lt_irrefl, decide_false, cond_false]
  · have e := h l[k] (hs.2 _ (List.getElem_mem hk)).1
    have r3 : ∀ x : T_ValS, room (acc.length + [x].length) 24 = true := fun x => by simp only [room, decide_eq_true_eq, List.length_cons, List.length_nil]; omega
    simp only [impl_copyRows_L1, lt_cast, decide_eq_true hk, inR_true hk, Int.toNat_natCast, getD_at hk, cond_true, wrap_succ hk (by omega), e, Option.bind_some, r3, id]
def wsOk (ws : List ByteArray) : Prop := ws.length ≤ 1048577 ∧ ∀ w ∈ ws, w.size ≤ 1048576
theorem wsOk.drop {ws : List ByteArray} (h : wsOk ws) (i : Nat) : wsOk (ws.drop i) := ⟨by have := h.1; simp; omega, fun w hw => h.2 w (List.mem_of_mem_drop hw)⟩
theorem wsOk.take {ws : List ByteArray} (h : wsOk ws) (i : Nat) : wsOk (ws.take i) := ⟨by have := h.1; simp; omega, fun w hw => h.2 w (List.mem_of_mem_take hw)⟩
def foldI {α S : Type} (f : Nat → α → S → S) : Nat → List α → S → S
  | _, [], s => s
  | k, x :: t, s => foldI f (k + 1) t (f k x s)
theorem foldI_loop {α S T : Type} (l : List α) (f : Nat → α → S → S) (L : Nat → Nat → S → T) (R : S → T) (Inv : Nat → S → Prop) (hinv : ∀ k (h : k < l.length) s, Inv k s → Inv (k + 1) (f k l[k] s))
    (hexit : ∀ j s, Inv l.length s → L (j + 1) l.length s = R s) (hstep : ∀ j k s (h : k < l.length), Inv k s → L (j + 1) k s = L j (k + 1) (f k l[k] s)) :
    ∀ (t : List α) (j k : Nat) (s : S), l.drop k = t → k ≤ l.length → t.length < j → Inv k s → L j k s = R (foldI f k t s)
  | [], j + 1, k, s, hd, hk, _, hs => by
    have : k = l.length := by
      rcases Nat.lt_or_ge k l.length with h' | h'
      · rw [List.drop_eq_getElem_cons h'] at hd; cases hd
      · omega
    subst this; rw [hexit _ _ hs]; rfl
  | x :: t, j + 1, k, s, hd, hk, hj, hs => by
    obtain ⟨h2, h3, h4⟩ := drop_cons hd x
    have hx : l[k] = x := by simpa [List.getD, h2] using h3
    rw [hstep j k s h2 hs, foldI_loop l f L R Inv hinv hexit hstep t j (k + 1) _ h4 (by omega) (by simp at hj; omega) (hinv k h2 s hs)]
    simp only [foldI, hx]
theorem foldI_skip {α : Type} (i : Nat) : ∀ (t : List α) (k : Nat) (acc : List α), k ≤ i → foldI (fun k x (s : List α) => if k = i then s else s ++ [x]) k t acc = acc ++ (t.take (i - k) ++ t.drop (i - k + 1))
  | [], k, acc, _ => by simp [foldI]
  | x :: t, k, acc, h => by
    by_cases e : k = i
    · subst e
      simp only [foldI, if_true, Nat.sub_self, List.take_zero, List.nil_append, List.drop_succ_cons, List.drop_zero]
      have : ∀ (t : List α) (q : Nat) (acc : List α), k < q → foldI (fun j x (s : List α) => if j = k then s else s ++ [x]) q t acc = acc ++ t := by
        intro t
        induction t with
        | nil => intro q acc _; simp [foldI]
        | cons y t ih => intro q acc hq; simp only [foldI, if_neg (show ¬ q = k by omega)]; rw [ih _ _ (by omega)]; simp
      exact this t _ acc (by omega)
    · simp only [foldI, if_neg e]
      rw [foldI_skip i t (k + 1) _ (by omega)]
      obtain ⟨d, hd⟩ : ∃ d, i - k = d + 1 := ⟨i - k - 1, by omega⟩
      rw [hd, show i - (k + 1) = d by omega]
      simp
def without {α : Type} (l : List α) (i : Nat) : List α := l.take i ++ l.drop (i + 1)
theorem without_mem {α : Type} {l : List α} {i : Nat} {x : α} (h : x ∈ without l i) : x ∈ l := by
  rcases List.mem_append.mp h with h | h
  · exact List.mem_of_mem_take h
  · exact List.mem_of_mem_drop h
theorem without_len {α : Type} (l : List α) (i : Nat) : (without l i).length ≤ l.length := by simp [without]; omega
theorem del1 {α : Type} {l : List α} {i : Nat} (h : i < l.length) : delF l (i : Int) ((i + 1 : Nat) : Int) = some (without l i) := by
  unfold delF
  rw [decide_eq_true (by omega)]; rfl
theorem rows_lens {x : T_Table} {l : T_RowS} (h : cRowsOk x l = true) : ∀ r ∈ l, r.length = x.2.1.length := fun r hr => rowIn_len ((rows_in h).2.2 r hr)
theorem smr_nil : sm_RowS 1048576 [] := ⟨Nat.zero_le _, by simp⟩
theorem idx_at {α : Type} (p : α → Bool) : ∀ (l : List α) (k i : Nat), idxFrom p l k = ((k + i : Nat) : Int) → ∃ h : i < l.length, p l[i] = true
  | [], k, i, h => by simp only [idxFrom] at h; omega
  | x :: t, k, i, h => by
    simp only [idxFrom] at h
    split at h
    · rename_i hp
      obtain rfl : i = 0 := by omega
      exact ⟨by simp, hp⟩
    · rcases idx_bound p t (k + 1) with e | e
      · omega
      · obtain ⟨i, rfl⟩ : ∃ i', i = i' + 1 := ⟨i - 1, by omega⟩
        obtain ⟨h1, h2⟩ := idx_at p t (k + 1) i (by rw [h]; congr 1; omega)
        exact ⟨by simp; exact h1, by simpa using h2⟩
def lessT (a b : ByteArray) : Bool := Op.bytesLess a.toList b.toList
def hasT (l : List ByteArray) (s : ByteArray) : Bool := l.any fun x => decide (x = s)
def tAt (l : T_TableS) (s : ByteArray) : Int := idx (fun t : T_Table => decide (t.1 = s)) l
theorem tAt_cases (l : T_TableS) (s : ByteArray) : tAt l s < 0 ∨ ∃ k : Nat, tAt l s = (k : Int) ∧ k < l.length := by
  obtain ⟨b1, b2⟩ := idx_lt (fun t : T_Table => decide (t.1 = s)) l
  rw [show idx (fun t : T_Table => decide (t.1 = s)) l = tAt l s from rfl] at b1 b2
  by_cases c : 0 ≤ tAt l s
  · obtain ⟨k, e⟩ := Int.eq_ofNat_of_zero_le c
    exact .inr ⟨k, e, by omega⟩
  · exact .inl (by omega)
theorem slices_IndexStr_ok : EV fun n => ∀ (l : List ByteArray) (s : ByteArray), l.length ≤ 1048576 → slices_Index_string_string n l s = some (idx (fun x => decide (s = x)) l) := (EV.gt 1048577).up fun n hn l s hl => by
  rw [slices_Index_string_string]
  refine find_loop (fun x => decide (s = x)) l (fun j k => slices_Index_string_string_L1 n j l s (l.length : Int) (k : Int)) (fun j => ?_) (fun j k hk => ?_) l n 0 rfl (by omega) (by omega)
  · simp only [slices_Index_string_string_L1, lt_cast, Nat.lt_irrefl, decide_false, cond_false]
  · simp only [slices_Index_string_string_L1, lt_cast, decide_eq_true hk, inR_true hk, Int.toNat_natCast, getD_at hk, cond_true, wrap_succ hk (by omega), text_eq]
    exact bif_step' _ _
theorem hasT_idx (l : List ByteArray) (s : ByteArray) : decide ((0 : Int) ≤ idx (fun x => decide (s = x)) l) = hasT l s := by
  rw [idx, idx_any]
  simp only [hasT]
  congr 1
  funext x
  rw [decide_eq_decide]
  exact ⟨fun h => h.symm, fun h => h.symm⟩
theorem slices_ContainsStr_ok : EV fun n => ∀ (l : List ByteArray) (s : ByteArray), l.length ≤ 1048576 → slices_Contains_string_string n l s = some (hasT l s) := slices_IndexStr_ok.up fun n h l s hl => by
  simp only [slices_Contains_string_string, h l s hl, Option.bind_some, hasT_idx]
theorem spec_l02Has_ok : EV fun n => ∀ (l : List ByteArray) (s : ByteArray), l.length ≤ 1048576 → spec_l02Has n l s = some (hasT l s) := (EV.gt 1048577).up fun n hn l s hl => by
  rw [spec_l02Has]
  have key : ∀ (t : List ByteArray) (j k : Nat), l.drop k = t → k ≤ l.length → t.length < j → spec_l02Has_L1 n j s l (l.length : Int) (k : Int) = some (hasT t s) := by
    intro t
    induction t with
    | nil =>
      intro j k hdr hk hj
      obtain ⟨j, rfl⟩ : ∃ i, j = i + 1 := ⟨j - 1, by simp at hj; omega⟩
      have : k = l.length := by
        rcases Nat.lt_or_ge k l.length with h' | h'
        · rw [List.drop_eq_getElem_cons h'] at hdr; cases hdr
        · omega
      subst this
      simp only [spec_l02Has_L1, lt_cast, Nat.lt_irrefl, decide_false, cond_false]; rfl
    | cons x t ih =>
      intro j k hdr hk hj
      obtain ⟨j, rfl⟩ : ∃ i, j = i + 1 := ⟨j - 1, by simp at hj; omega⟩
      obtain ⟨h2, h3, h4⟩ := drop_cons hdr E0
      rw [getD_at h2] at h3
      simp only [spec_l02Has_L1, lt_cast, decide_eq_true h2, inR_true h2, Int.toNat_natCast, getD_at h2, h3, cond_true, wrap_succ h2 (by omega), text_eq]
      rw [ih j (k + 1) h4 (by omega) (by simp at hj; omega)]
      simp only [hasT, List.any_cons]
      cases decide (x = s) <;> rfl
  exact key l n 0 rfl (by omega) (by omega)
def cFault (x : T_Table) (d : T_Ddl) : Int :=
  if d.1 = 3 then (if 0 ≤ cColAt x.2.1 (d.2.2.1.getD 0 CZ).1 then 5 else if x.2.1.length = 8 then 6 else 0) else
  if d.1 = 4 then (if cColAt x.2.1 d.2.2.2.2.1 < 0 then 7 else if hasT x.2.2 d.2.2.2.2.1 = true then 8 else 0) else
  if d.1 = 5 then (if 0 ≤ cColAt x.2.1 d.2.2.2.2.2 then 5 else if cColAt x.2.1 d.2.2.2.2.1 < 0 then 7 else 0) else 0
theorem bif_dec {p : Prop} [Decidable p] {α : Type} (x y : α) : (bif decide p then x else y) = if p then x else y := by by_cases h : p <;> simp [h]
theorem spec_l02Fault_ok : EV fun n => ∀ (x : T_Table) (d : T_Ddl), sm_Table 1048576 x → cDdlOk d = true → spec_l02Fault n x.1 x.2.1 x.2.2 d.1 d.2.1 d.2.2.1 d.2.2.2.1 d.2.2.2.2.1 d.2.2.2.2.2 = some (cFault x d) := (spec_ColAt_ok.and spec_l02Has_ok).up fun n ⟨h1, h2⟩ x d hs hd => by
  have hc := hs.2.1.1
  have hk := hs.2.2.1
  simp only [spec_l02Fault, h1 _ _ _ _ hc, h2 _ _ hk, Option.bind_some, int_beq, cFault]
  by_cases k3 : d.1 = 3
  · obtain ⟨c, hcs, _⟩ := ddlOk_3 hd k3
    simp only [k3, decide_true, cond_true, if_true, hcs, List.length_singleton, inR0, Int.toNat_zero, List.getD_cons_zero, bif_dec]
    split
    · rfl
    · by_cases h8 : x.2.1.length = 8
      · rw [if_pos (by omega), if_pos h8]
      · rw [if_neg (by omega), if_neg h8]
  by_cases k4 : d.1 = 4
  · simp only [k4, show ¬ (4 : Int) = 3 by decide, decide_false, decide_true, cond_true, cond_false, if_true, if_false, bif_dec]
    split
    · rfl
    · cases hasT x.2.2 d.2.2.2.2.1 <;> rfl
  by_cases k5 : d.1 = 5
  · simp only [k5, show ¬ (5 : Int) = 3 by decide, show ¬ (5 : Int) = 4 by decide, decide_false, decide_true, cond_true, cond_false, if_true, if_false, bif_dec]
    split
    · rfl
    · split <;> rfl
  · simp only [k3, k4, k5, decide_false, cond_false, if_false]
def cCode (l : T_TableS) (d : T_Ddl) : Int :=
  if d.1 = 1 then (if 0 ≤ tAt l d.2.1 then 2 else if l.length = 6 then 3 else 0) else
  if tAt l d.2.1 < 0 then 4 else cFault (l.getD (tAt l d.2.1).toNat noTable) d
theorem impl_ddlCode_ok : EV fun n => ∀ (l : T_TableS) (d : T_Ddl), sm_TableS 1048576 l → cDdlOk d = true → impl_ddlCode n l d.1 d.2.1 d.2.2.1 d.2.2.2.1 d.2.2.2.2.1 d.2.2.2.2.2 = some (cCode l d) := (impl_Cat_at_ok.and (impl_ColAt_ok.and slices_ContainsStr_ok)).up fun n ⟨h1, h2, h3⟩ l d hs hd => by
  have e := h1 l d.2.1 hs.1
  rw [show idx (fun t : T_Table => decide (t.1 = d.2.1)) l = tAt l d.2.1 from rfl] at e
  simp only [impl_ddlCode, e, Option.bind_some, int_beq, cCode]
  by_cases k1 : d.1 = 1
  · simp only [k1, decide_true, cond_true, if_true, bif_dec]
    split
    · rfl
    · by_cases h8 : l.length = 6
      · rw [if_pos (by omega), if_pos h8]
      · rw [if_neg (by omega), if_neg h8]
  rcases tAt_cases l d.2.1 with c | ⟨i, ei, hi⟩
  · simp only [k1, decide_false, cond_false, if_false, decide_eq_true c, cond_true, if_pos c]
  have z : ¬ ((i : Int) < 0) := by omega
  simp only [ei, k1, decide_false, cond_false, if_false, decide_eq_false z, if_neg z, inR_true hi, cond_true, Int.toNat_natCast, getD_at hi]
  have hx := hs.2 _ (List.getElem_mem hi)
  generalize l[i] = x at hx
  have hc := hx.2.1.1
  have hk := hx.2.2.1
  have h2' : ∀ s, impl_ColAt n x.1 x.2.1 x.2.2 s = some (cColAt x.2.1 s) := fun s => h2 _ _ _ _ hc
  simp only [h2', h3 _ _ hk, Option.bind_some, cFault]
  by_cases k3 : d.1 = 3
  · obtain ⟨c, hcs, _⟩ := ddlOk_3 hd k3
    simp only [k3, decide_true, cond_true, if_true, hcs, List.length_singleton, inR0, Int.toNat_zero, List.getD_cons_zero, bif_dec, show ¬ (3 : Int) = 5 by decide, show ¬ (3 : Int) = 4 by decide, if_false]
    split
    · rfl
    · by_cases h8 : x.2.1.length = 8
      · rw [if_pos (by omega), if_pos h8]
      · rw [if_neg (by omega), if_neg h8]
  by_cases k4 : d.1 = 4
  · simp only [k4, show ¬ (4 : Int) = 3 by decide, show ¬ (4 : Int) = 5 by decide, decide_false, decide_true, cond_true, cond_false, if_true, if_false, bif_dec]
    split
    · rfl
    · cases hasT x.2.2 d.2.2.2.2.1 <;> rfl
  by_cases k5 : d.1 = 5
  · simp only [k5, show ¬ (5 : Int) = 3 by decide, show ¬ (5 : Int) = 4 by decide, decide_false, decide_true, cond_true, cond_false, if_true, if_false, bif_dec]
    split
    · rfl
    · split <;> rfl
  · simp only [k3, k4, k5, decide_false, cond_false, if_false]
theorem spec_l02Copy_ok : EV fun n => ∀ l : T_TableS, sm_TableS 1048576 l → spec_l02Copy n l = some l := (spec_l02Table_ok.and (EV.gt 1048577)).up fun n ⟨h, hn⟩ l hs => by
  have hl := hs.1
  simp only [spec_l02Copy]
  refine (map_loop l id (fun j k acc => spec_l02Copy_L1 n j l (l.length : Int) (k : Int) [] acc) (fun j acc => ?_) (fun j k acc hk ha => ?_) l n 0 [] rfl (by omega) (by omega) rfl).trans (by simp)
  · simp only [spec_l02Copy_L1, lt_cast, Nat.lt_irrefl, decide_false, cond_false]
  · have e := h l[k] (hs.2 _ (List.getElem_mem hk))
    have r3 : ∀ x : T_Table, room (acc.length + [x].length) 64 = true := fun x => by simp only [room, decide_eq_true_eq, List.length_cons, List.length_nil]; omega
    simp only [spec_l02Copy_L1, lt_cast, decide_eq_true hk, inR_true hk, Int.toNat_natCast, getD_at hk, cond_true, wrap_succ hk (by omega), e, Option.bind_some, r3, id]
def putTb (t : T_Table) : T_TableS → T_TableS
  | [] => [t]
  | x :: l => if lessT t.1 x.1 = true then t :: x :: l else x :: putTb t l
def putF (t : T_Table) : T_TableS → Bool → T_TableS → T_TableS
  | [], d, acc => if d = true then acc else acc ++ [t]
  | x :: l, d, acc => if d = false ∧ lessT t.1 x.1 = true then putF t l true (acc ++ [t] ++ [x]) else putF t l d (acc ++ [x])
theorem putF_done (t : T_Table) : ∀ (l : T_TableS) (acc : T_TableS), putF t l true acc = acc ++ l
  | [], acc => by simp [putF]
  | x :: l, acc => by
    simp only [putF, Bool.true_eq_false, false_and, if_false]
    rw [putF_done t l]; simp
theorem putF_eq (t : T_Table) : ∀ (l : T_TableS) (acc : T_TableS), putF t l false acc = acc ++ putTb t l
  | [], acc => by simp [putF, putTb]
  | x :: l, acc => by
    simp only [putF, true_and, putTb]
    split
    · rw [putF_done]; simp
    · rw [putF_eq t l]; simp
theorem spec_l02Put_ok : EV fun n => ∀ (l : T_TableS) (x : T_Table), l.length ≤ 1048576 → spec_l02Put n l x.1 x.2.1 x.2.2 = some (putTb x l) := (EV.gt 1048577).up fun n hn l x hl => by
  have key : ∀ (t : T_TableS) (j k : Nat) (d : Bool) (acc : T_TableS), l.drop k = t → k ≤ l.length → t.length < j → acc.length ≤ k + d.toNat →
      spec_l02Put_L1 n j d l (l.length : Int) (k : Int) x.1 x.2.1 x.2.2 [] acc = some (putF x t d acc) := by
    intro t
    induction t with
    | nil =>
      intro j k d acc hdr hk hj ha
      obtain ⟨j, rfl⟩ : ∃ i, j = i + 1 := ⟨j - 1, by simp at hj; omega⟩
      have : k = l.length := by
        rcases Nat.lt_or_ge k l.length with h' | h'
        · rw [List.drop_eq_getElem_cons h'] at hdr; cases hdr
        · omega
      subst this
      have hd1 : d.toNat ≤ 1 := by cases d <;> decide
      have r : room (acc.length + [x].length) 64 = true := by simp only [room, decide_eq_true_eq, List.length_cons, List.length_nil]; omega
      simp only [spec_l02Put_L1, lt_cast, Nat.lt_irrefl, decide_false, cond_false, putF]
      rw [show [(x.1, (x.2.1, x.2.2))] = [x] from rfl, r]
      cases d <;> rfl
    | cons y t ih =>
      intro j k d acc hdr hk hj ha
      obtain ⟨j, rfl⟩ : ∃ i, j = i + 1 := ⟨j - 1, by simp at hj; omega⟩
      obtain ⟨h2, h3, h4⟩ := drop_cons hdr noTable
      rw [getD_at h2] at h3
      have hd1 : d.toNat ≤ 1 := by cases d <;> decide
      have hj' : t.length < j := by simp at hj; omega
      have r1 : room (acc.length + [x].length) 64 = true := by simp only [room, decide_eq_true_eq, List.length_cons, List.length_nil]; omega
      have r2 : room ((acc ++ [x]).length + [y].length) 64 = true := by simp only [room, decide_eq_true_eq, List.length_append, List.length_cons, List.length_nil]; omega
      have r3 : room (acc.length + [y].length) 64 = true := by simp only [room, decide_eq_true_eq, List.length_cons, List.length_nil]; omega
      simp only [spec_l02Put_L1, lt_cast, decide_eq_true h2, inR_true h2, Int.toNat_natCast, getD_at h2, h3, cond_true, wrap_succ h2 (by omega), putF]
      rw [show [(x.1, (x.2.1, x.2.2))] = [x] from rfl, show [(y.1, (y.2.1, y.2.2))] = [y] from rfl, r1, r2, r3]
      simp only [cond_true]
      have i1 := ih j (k + 1) d (acc ++ [y]) h4 (by omega) hj'
      cases d
      · simp only [Bool.not_false, cond_true, true_and]
        cases c : lessT x.1 y.1
        · rw [show Op.bytesLess x.1.toList y.1.toList = false from c, cond_false, if_neg (by simp)]
          exact i1 (by simp at ha ⊢; omega)
        · rw [show Op.bytesLess x.1.toList y.1.toList = true from c, cond_true, if_pos rfl]
          exact ih j (k + 1) true (acc ++ [x] ++ [y]) h4 (by omega) hj' (by simp at ha ⊢; omega)
      · simp only [Bool.not_true, cond_false, Bool.true_eq_false, false_and, if_false]
        exact i1 (by simp at ha ⊢; omega)
  simp only [spec_l02Put]
  refine (key l n 0 false [] rfl (by omega) (by omega) (by simp)).trans ?_
  rw [putF_eq]; rfl
/-! ### a table with a change -/
def chCol (d : T_Ddl) (c : T_Col) : T_Col := if d.1 = 5 ∧ c.1 = d.2.2.2.2.1 then (d.2.2.2.2.2, c.2) else c
def chKey (d : T_Ddl) (k : ByteArray) : ByteArray := if d.1 = 5 ∧ k = d.2.2.2.2.1 then d.2.2.2.2.2 else k
def chOut (d : T_Ddl) (c : T_Col) : Bool := decide (d.1 = 4) && decide (c.1 = d.2.2.2.2.1)
def cChange (x : T_Table) (d : T_Ddl) : T_Table := (x.1, ((x.2.1.filter fun c => !chOut d c).map (chCol d) ++ (if d.1 = 3 then [d.2.2.1.getD 0 CZ] else []), x.2.2.map (chKey d)))
theorem filter_map_fold {α β : Type} (p : α → Bool) (f : α → β) : ∀ (l : List α) (k : Nat) (acc : List β), foldI (fun _ x s => if p x = true then s else s ++ [f x]) k l acc = acc ++ (l.filter fun x => !p x).map f
  | [], k, acc => by simp [foldI]
  | x :: l, k, acc => by
    simp only [foldI]
    rw [filter_map_fold p f l]
    by_cases c : p x = true
    · simp [c]
    · simp [c]
theorem spec_l02Change_ok : EV fun n => ∀ (x : T_Table) (d : T_Ddl), sm_Table 1048576 x → cDdlOk d = true → spec_l02Change n x.1 x.2.1 x.2.2 d.1 d.2.1 d.2.2.1 d.2.2.2.1 d.2.2.2.2.1 d.2.2.2.2.2 = some (cChange x d) := (EV.gt 1048577).up fun n hn x d hs hd => by
  have hcl := hs.2.1.1
  have hkl := hs.2.2.1
  have hL2 : ∀ (cs : T_ColS), cs.length ≤ 1048576 → ∀ (t : List ByteArray) (j k : Nat) (s : List ByteArray), s.drop k = t → k ≤ s.length → t.length < j → s.length ≤ 1048576 →
      spec_l02Change_L2 n j (s.length : Int) (k : Int) d.1 d.2.1 d.2.2.1 d.2.2.2.1 d.2.2.2.2.1 d.2.2.2.2.2 E0 [] [] x.1 cs s = some (x.1, (cs ++ (if d.1 = 3 then [d.2.2.1.getD 0 CZ] else []), s.take k ++ t.map (chKey d))) := by
    intro cs hcs t
    induction t with
    | nil =>
      intro j k s hdr hk hj hsl
      obtain ⟨j, rfl⟩ : ∃ i, j = i + 1 := ⟨j - 1, by simp at hj; omega⟩
      have : k = s.length := by
        rcases Nat.lt_or_ge k s.length with h' | h'
        · rw [List.drop_eq_getElem_cons h'] at hdr; cases hdr
        · omega
      subst this
      simp only [spec_l02Change_L2, lt_cast, Nat.lt_irrefl, decide_false, cond_false, int_beq, List.take_length, List.map_nil, List.append_nil]
      by_cases k3 : d.1 = 3
      · obtain ⟨c, hc, _⟩ := ddlOk_3 hd k3
        simp only [k3, hc, decide_true, cond_true, if_true, List.length_singleton, inR0, Int.toNat_zero, List.getD_cons_zero]
        have r' : room (cs.length + 1) 64 = true := by simp only [room, decide_eq_true_eq]; omega
        rw [show [(c.1, (c.2.1, (c.2.2.1, (c.2.2.2.1, (c.2.2.2.2.1, (c.2.2.2.2.2.1, c.2.2.2.2.2.2))))))] = [c] from rfl, r']; rfl
      · simp only [k3, decide_false, cond_false, if_false, List.append_nil]
    | cons y t ih =>
      intro j k s hdr hk hj hsl
      obtain ⟨j, rfl⟩ : ∃ i, j = i + 1 := ⟨j - 1, by simp at hj; omega⟩
      obtain ⟨h2, h3, h4⟩ := drop_cons hdr E0
      rw [getD_at h2] at h3
      have hj' : t.length < j := by simp at hj; omega
      simp only [spec_l02Change_L2, lt_cast, decide_eq_true h2, inR_true h2, Int.toNat_natCast, getD_at h2, h3, cond_true, wrap_succ h2 (by omega), int_beq, text_eq]
      have hset : ∀ z : ByteArray, (s.set k z).take (k + 1) = s.take k ++ [z] := fun z => by
        rw [List.take_add_one, List.take_set_of_le (by omega), List.getElem?_set_self h2]; rfl
      have htk : s.take (k + 1) = s.take k ++ [y] := by rw [List.take_add_one, List.getElem?_eq_getElem h2, h3]; rfl
      by_cases k5 : d.1 = 5
      · by_cases e : y = d.2.2.2.2.1
        · have := ih j (k + 1) (s.set k d.2.2.2.2.2) (by rw [List.drop_set_of_lt (by omega)]; exact h4) (by simp; omega) hj' (by simpa using hsl)
          rw [List.length_set, hset] at this
          simp only [k5, e, decide_true, cond_true, List.map_cons, chKey, and_self, if_true] at this ⊢
          rw [this]; simp [chKey]
        · have := ih j (k + 1) s h4 (by omega) hj' hsl
          rw [htk] at this
          simp only [k5, e, decide_true, decide_false, cond_true, cond_false, List.map_cons, chKey, and_false, if_false] at this ⊢
          rw [this]; simp [chKey]
      · have := ih j (k + 1) s h4 (by omega) hj' hsl
        rw [htk] at this
        simp only [k5, decide_false, cond_false, List.map_cons, chKey, false_and, if_false] at this ⊢
        rw [this]; simp [chKey]
  have r1 : room (([] : List ByteArray).length + x.2.2.length) 16 = true := by simp only [room, decide_eq_true_eq, List.length_nil]; omega
  simp only [spec_l02Change, r1, cond_true, List.nil_append]
  refine (foldI_loop x.2.1 (fun _ c s => if chOut d c = true then s else s ++ [chCol d c]) (fun j k acc => spec_l02Change_L1 n j x.2.1 (x.2.1.length : Int) (k : Int) d.1 d.2.1 d.2.2.1 d.2.2.2.1 d.2.2.2.2.1 d.2.2.2.2.2 E0 [] [] x.1 acc x.2.2)
    (fun acc => some (x.1, (acc ++ (if d.1 = 3 then [d.2.2.1.getD 0 CZ] else []), x.2.2.map (chKey d)))) (fun k s => s.length ≤ k) (fun k hk s h => ?_) (fun j acc hacc => ?_) (fun j k acc hk hacc => ?_) x.2.1 n 0 [] rfl (by omega) (by omega) (Nat.le_refl 0)).trans ?_
  · split
    · omega
    · rw [List.length_append]; simp only [List.length_cons, List.length_nil]; omega
  · simp only [spec_l02Change_L1, lt_cast, Nat.lt_irrefl, decide_false, cond_false]
    have := hL2 acc (by omega) x.2.2 n 0 x.2.2 rfl (by omega) (by omega) hkl
    rw [List.take_zero, List.nil_append] at this
    exact this
  · have r : ∀ c : T_Col, room (acc.length + [c].length) 64 = true := fun c => by simp only [room, decide_eq_true_eq, List.length_cons, List.length_nil]; omega
    simp only [spec_l02Change_L1, lt_cast, decide_eq_true hk, inR_true hk, Int.toNat_natCast, getD_at hk, cond_true, wrap_succ hk (by omega), int_beq, text_eq, chOut, chCol]
    generalize x.2.1[k] = c
    simp only [r, cond_true]
    by_cases k4 : d.1 = 4
    · by_cases e : c.1 = d.2.2.2.2.1
      · simp only [k4, e, decide_true, cond_true, Bool.and_self, if_true]
      · simp only [k4, e, decide_true, decide_false, cond_true, cond_false, Bool.and_false, Bool.false_eq_true, if_false, show ¬ (4 : Int) = 5 by decide, false_and]
    · by_cases k5 : d.1 = 5
      · by_cases e : c.1 = d.2.2.2.2.1
        · simp only [k5, e, show ¬ (5 : Int) = 4 by decide, decide_false, decide_true, cond_true, cond_false, Bool.false_and, Bool.false_eq_true, if_false, and_self, if_true]
        · simp only [k5, e, show ¬ (5 : Int) = 4 by decide, decide_false, decide_true, cond_true, cond_false, Bool.false_and, Bool.false_eq_true, if_false, and_false]
      · simp only [k4, k5, decide_false, cond_false, Bool.false_and, Bool.false_eq_true, if_false, false_and]
  · rw [filter_map_fold]; rfl
def cTables (l : T_TableS) (d : T_Ddl) : T_TableS :=
  if d.1 = 1 then putTb (d.2.1, (d.2.2.1, d.2.2.2.1)) l else
  if d.1 = 2 then without l (tAt l d.2.1).toNat else l.set (tAt l d.2.1).toNat (cChange (l.getD (tAt l d.2.1).toNat noTable) d)
def cApply (l : T_TableS) (d : T_Ddl) : T_TableS × (Int × Unit) :=
  if cCatOk l = true ∧ cDdlOk d = true then (if cCode l d = 0 then (cTables l d, (0, ())) else ([], (cCode l d, ()))) else ([], (1, ()))
theorem spec_DdlApply_ok : EV fun n => ∀ (l : T_TableS) (d : T_Ddl), sm_TableS 1048576 l → sm_Ddl 1048576 d → spec_DdlApply n l d.1 d.2.1 d.2.2.1 d.2.2.2.1 d.2.2.2.2.1 d.2.2.2.2.2 = some (cApply l d) := (spec_CatOk_ok.and (spec_DdlOk_ok.and (spec_l02At_ok.and (spec_l02Copy_ok.and (spec_l02Table_ok.and (spec_l02Put_ok.and (spec_l02Fault_ok.and spec_l02Change_ok))))))).up fun n ⟨h1, h2, h3, h4, h5, h6, h7, h8⟩ l d hl hd => by
  have e3 := h3 l d.2.1 hl.1
  rw [show idx (fun t : T_Table => decide (t.1 = d.2.1)) l = tAt l d.2.1 from rfl] at e3
  simp only [spec_DdlApply, h1 l hl, h2 d hd, e3, h4 l hl, Option.bind_some, cApply, int_beq, int_bne]
  cases hc : cCatOk l
  · simp
  cases hk : cDdlOk d
  · simp
  have hlen := (cat_facts hc).1
  simp only [Bool.not_true, cond_false, and_self, if_true]
  have hbig := hl.1
  by_cases k1 : d.1 = 1
  · have e5 := h5 (d.2.1, (d.2.2.1, d.2.2.2.1)) ⟨hd.1, hd.2.1, hd.2.2.1⟩
    have e6 := h6 l (d.2.1, (d.2.2.1, d.2.2.2.1)) hbig
    dsimp only at e5 e6
    simp only [k1, decide_true, cond_true, e5, e6, Option.bind_some, cCode, cTables, if_true, bif_dec]
    by_cases c : 0 ≤ tAt l d.2.1
    · simp only [if_pos c]; rfl
    · simp only [if_neg c]
      by_cases h6' : l.length = 6
      · rw [if_pos (by omega), if_pos h6']; rfl
      · rw [if_neg (by omega), if_neg h6']; rfl
  simp only [k1, decide_false, cond_false, cCode, cTables, if_false]
  rcases tAt_cases l d.2.1 with c | ⟨i, ei, hi⟩
  · simp only [decide_eq_true c, cond_true, if_pos c]; rfl
  have z : ¬ ((i : Int) < 0) := by omega
  have e7 := h7 l[i] d (hl.2 _ (List.getElem_mem hi)) hk
  have e8 := h8 l[i] d (hl.2 _ (List.getElem_mem hi)) hk
  simp only [ei, decide_eq_false z, cond_false, inR_true hi, cond_true, Int.toNat_natCast, getD_at hi, e7, e8, Option.bind_some, if_neg z]
  by_cases cf : cFault l[i] d = 0
  · simp only [cf, decide_true, Bool.not_true, cond_false, if_true]
    by_cases k2 : d.1 = 2
    · have w : IntKind.wrap .i64 ((i : Int) + 1) = ((i + 1 : Nat) : Int) := wrap_succ hi (by omega)
      have q1 : decide (0 ≤ ((0 : Nat) : Int) ∧ ((0 : Nat) : Int) ≤ (i : Int) ∧ (i : Int) ≤ (l.length : Int)) = true := decide_eq_true ⟨by omega, by omega, by omega⟩
      have q2 : decide (0 ≤ ((i + 1 : Nat) : Int) ∧ ((i + 1 : Nat) : Int) ≤ ((l.length : Nat) : Int) ∧ ((l.length : Nat) : Int) ≤ (l.length : Int)) = true := decide_eq_true ⟨by omega, by omega, by omega⟩
      have r1 : room (([] : T_TableS).length + ((l.drop 0).take (i - 0)).length) 64 = true := by simp only [room, decide_eq_true_eq, List.length_nil, List.length_take]; omega
      have t1 : (l.drop (i + 1)).take (l.length - (i + 1)) = l.drop (i + 1) := List.take_of_length_le (by simp)
      have r2 : room (([] ++ (l.drop 0).take (i - 0)).length + (l.drop (i + 1)).length) 64 = true := by simp only [room, decide_eq_true_eq, List.nil_append, List.length_take, List.length_drop]; omega
      simp only [k2, decide_true, cond_true, if_true, w, Int.toNat_natCast, Int.toNat_zero, q1, r1, q2, t1, r2]
      rw [List.nil_append, List.drop_zero, Nat.sub_zero]; rfl
    · simp only [k2, decide_false, cond_false, if_false]
  · simp only [cf, decide_false, Bool.not_false, cond_true, if_false]
/-! ### the program's own way -/
theorem colAt_cases (cs : T_ColS) (s : ByteArray) : cColAt cs s < 0 ∨ ∃ k : Nat, cColAt cs s = (k : Int) ∧ ∃ hk : k < cs.length, cs[k].1 = s := by
  by_cases c : 0 ≤ cColAt cs s
  · obtain ⟨k, e⟩ := Int.eq_ofNat_of_zero_le c
    obtain ⟨hk, e2⟩ := idx_at (fun c : T_Col => decide (c.1 = s)) cs 0 k (by rw [Nat.zero_add]; exact e)
    exact .inr ⟨k, e, hk, by simpa using e2⟩
  · exact .inl (by omega)
def rowCh (x : T_Table) (d : T_Ddl) (r : T_Row) : T_Row :=
  if d.1 = 4 then without r (cColAt x.2.1 d.2.2.2.2.1).toNat else if d.1 = 3 then r ++ [(d.2.2.1.getD 0 CZ).2.2.2.2] else r
def cRowsDdl (x : T_Table) (l : T_RowS) (d : T_Ddl) : T_RowS × (Int × Unit) :=
  if cRowsOk x l = true ∧ cDdlOk d = true ∧ d.2.1 = x.1 ∧ d.1 ≠ 1 then
    (if cFault x d = 0 then (if d.1 = 2 then [] else l.map (rowCh x d), (0, ())) else ([], (cFault x d, ()))) else ([], (1, ()))
theorem tAt_one {x : T_Table} {s : ByteArray} (h : s = x.1) : tAt [x] s = 0 := by
  subst h
  simp [tAt, idx, idxFrom]
theorem cCode_one {x : T_Table} {d : T_Ddl} (h : d.2.1 = x.1) (k1 : ¬ d.1 = 1) : cCode [x] d = cFault x d := by
  simp only [cCode, k1, if_false, tAt_one h]
  rfl
theorem catOk_one {x : T_Table} (h : cTableOk x = true) : cCatOk [x] = true := by
  simp [cCatOk, allFrom, cCatStep, h]
theorem out_col {x : T_Table} {d : T_Ddl} (k4 : d.1 = 4) (hf : cFault x d = 0) : ∃ p : Nat, cColAt x.2.1 d.2.2.2.2.1 = (p : Int) ∧ p < x.2.1.length := by
  rcases colAt_cases x.2.1 d.2.2.2.2.1 with c | ⟨p, ep, hp, _⟩
  · simp only [cFault, k4, show ¬ (4 : Int) = 3 by decide, if_false, if_true, if_pos c] at hf
    cases hf
  · exact ⟨p, ep, hp⟩
theorem foldI_all {α : Type} : ∀ (t : List α) (k : Nat) (acc : List α), foldI (fun _ x (s : List α) => s ++ [x]) k t acc = acc ++ t
  | [], k, acc => by simp [foldI]
  | x :: t, k, acc => by
    simp only [foldI]
    rw [foldI_all t]; simp
theorem foldI_congr {α S : Type} {f g : Nat → α → S → S} (h : ∀ k x s, f k x s = g k x s) : ∀ (t : List α) (k : Nat) (s : S), foldI f k t s = foldI g k t s
  | [], _, _ => rfl
  | x :: t, k, s => by
    simp only [foldI]
    rw [h, foldI_congr h t]
theorem foldI_nop {α S : Type} : ∀ (t : List α) (k : Nat) (s : S), foldI (fun _ _ (s : S) => s) k t s = s
  | [], _, _ => rfl
  | x :: t, k, s => foldI_nop t (k + 1) s
theorem spec_RowsDdl_ok : EV fun n => ∀ (x : T_Table) (l : T_RowS) (d : T_Ddl), sm_Table 1048576 x → sm_RowS 1048576 l → sm_Ddl 1048576 d → spec_RowsDdl n x.1 x.2.1 x.2.2 l d.1 d.2.1 d.2.2.1 d.2.2.2.1 d.2.2.2.2.1 d.2.2.2.2.2 = some (cRowsDdl x l d) := (spec_RowsOk_ok.and (spec_DdlOk_ok.and (spec_DdlApply_ok.and (spec_ColAt_ok.and (EV.gt 1048577))))).up fun n ⟨h1, h2, h3, h4, hn⟩ x l d hx hl hd => by
  have e3 := h3 [x] d ⟨by simp, fun t ht => by rw [List.mem_singleton.mp ht]; exact hx⟩ hd
  simp only [spec_RowsDdl, h1 x l hx hl.1, h2 d hd, h4 _ _ _ _ hx.2.1.1, Option.bind_some, text_eq, int_beq, int_bne, cRowsDdl]
  rw [show [(x.1, (x.2.1, x.2.2))] = [x] from rfl, e3]
  cases hr : cRowsOk x l
  · simp
  cases hk : cDdlOk d
  · simp
  simp only [Bool.not_true, cond_false]
  by_cases hn1 : d.2.1 = x.1
  rotate_left
  · simp [hn1]
  by_cases k1 : d.1 = 1
  · simp [hn1, k1]
  have ht := (rows_in hr).1
  have hlen := (rows_in hr).2.1
  simp only [hn1, k1, decide_true, decide_false, Bool.not_true, cond_false, Option.bind_some, ne_eq, not_false_eq_true, and_self, if_true, cApply, catOk_one ht, hk, cCode_one hn1 k1]
  by_cases hf : cFault x d = 0
  rotate_left
  · simp only [hf, decide_false, Bool.not_false, cond_true, if_false]
  simp only [hf, decide_true, Bool.not_true, cond_false, if_true]
  -- one row
  have hL2 : ∀ (k0 : Int → List (List (Int × (Int × ByteArray))) → Int → Int → Int → ByteArray → List (ByteArray × (Int × (Bool × (Bool × (Int × (Int × ByteArray)))))) → List ByteArray → ByteArray → ByteArray → List (List (Int × (Int × ByteArray))) → Option ((List (List (Int × (Int × ByteArray)))) × (Int × Unit)))
      (r : T_Row) (k : Nat) (acc : T_RowS), r.length = x.2.1.length → k < 60 → acc.length ≤ 60 →
      spec_RowsDdl_L2 n k0 n (cColAt x.2.1 d.2.2.2.2.1) l (l.length : Int) (k : Int) r (r.length : Int) ((0 : Nat) : Int) d.1 x.1 d.2.2.1 d.2.2.2.1 d.2.2.2.2.1 d.2.2.2.2.2 acc [] =
        k0 (cColAt x.2.1 d.2.2.2.2.1) l (l.length : Int) ((k + 1 : Nat) : Int) d.1 x.1 d.2.2.1 d.2.2.2.1 d.2.2.2.2.1 d.2.2.2.2.2 (if d.1 = 2 then acc else acc ++ [rowCh x d r]) := by
    intro k0 r k acc hrl hk60 hacc
    have hcl := hx.2.1.1
    refine (foldI_loop r (fun i v (s : T_Row) => if d.1 = 4 ∧ (i : Int) = cColAt x.2.1 d.2.2.2.2.1 then s else s ++ [v]) (fun j i s => spec_RowsDdl_L2 n k0 j (cColAt x.2.1 d.2.2.2.2.1) l (l.length : Int) (k : Int) r (r.length : Int) (i : Int) d.1 x.1 d.2.2.1 d.2.2.2.1 d.2.2.2.2.1 d.2.2.2.2.2 acc s)
      (fun s => k0 (cColAt x.2.1 d.2.2.2.2.1) l (l.length : Int) ((k + 1 : Nat) : Int) d.1 x.1 d.2.2.1 d.2.2.2.1 d.2.2.2.2.1 d.2.2.2.2.2 (if d.1 = 2 then acc else acc ++ [s ++ (if d.1 = 3 then [(d.2.2.1.getD 0 CZ).2.2.2.2] else [])]))
      (fun i s => s.length ≤ i) (fun i hi s hs => ?_) (fun j s hs => ?_) (fun j i s hi hs => ?_) r n 0 [] rfl (by omega) (by omega) (Nat.le_refl 0)).trans ?_
    · split
      · omega
      · rw [List.length_append]; simp only [List.length_cons, List.length_nil]; omega
    · have w : IntKind.wrap .i64 ((k : Int) + 1) = ((k + 1 : Nat) : Int) := by rw [wrap64] <;> omega
      have r2 : ∀ z : T_Row, room (acc.length + [z].length) 24 = true := fun z => by simp only [room, decide_eq_true_eq, List.length_cons, List.length_nil]; omega
      simp only [spec_RowsDdl_L2, lt_cast, Nat.lt_irrefl, decide_false, cond_false, int_beq, int_bne, r2, cond_true, w]
      by_cases k3 : d.1 = 3
      · obtain ⟨c, hcs, _⟩ := ddlOk_3 hk k3
        have r1 : room (s.length + 1) 32 = true := by simp only [room, decide_eq_true_eq]; omega
        simp only [k3, decide_true, cond_true, hcs, List.length_singleton, inR0, Int.toNat_zero, List.getD_cons_zero, r1, show ¬ (3 : Int) = 2 by decide, decide_false, Bool.not_false, if_false, if_true]
      · by_cases k2 : d.1 = 2
        · simp only [k2, show ¬ (2 : Int) = 3 by decide, decide_false, decide_true, cond_false, Bool.not_true, if_true]
        · simp only [k3, k2, decide_false, cond_false, Bool.not_false, cond_true, if_false, List.append_nil]
    · have r1 : ∀ z : T_Val, room (s.length + [z].length) 32 = true := fun z => by simp only [room, decide_eq_true_eq, List.length_cons, List.length_nil]; omega
      simp only [spec_RowsDdl_L2, lt_cast, decide_eq_true hi, inR_true hi, Int.toNat_natCast, getD_at hi, cond_true, wrap_succ hi (by omega), int_bne]
      rw [show [(r[i].1, (r[i].2.1, r[i].2.2))] = [r[i]] from rfl, r1]
      by_cases k4 : d.1 = 4
      · by_cases e : (i : Int) = cColAt x.2.1 d.2.2.2.2.1
        · simp only [k4, e, decide_true, Bool.not_true, cond_false, and_self, if_true]
        · simp only [k4, e, decide_true, decide_false, Bool.not_true, Bool.not_false, cond_false, cond_true, and_false, if_false]
      · simp only [k4, decide_false, Bool.not_false, cond_true, false_and, if_false]
    · congr 1
      by_cases k2 : d.1 = 2
      · rw [if_pos k2, if_pos k2]
      rw [if_neg k2, if_neg k2]
      congr 2
      unfold rowCh
      by_cases k4 : d.1 = 4
      · obtain ⟨p, ep, hp⟩ := out_col k4 hf
        rw [if_pos k4, if_neg (by rw [k4]; decide), List.append_nil, ep, Int.toNat_natCast]
        rw [foldI_congr (g := fun i v (s : T_Row) => if i = p then s else s ++ [v]) (fun i v s => by
          simp only [k4, true_and]
          by_cases e : i = p
          · rw [if_pos (by omega), if_pos e]
          · rw [if_neg (by omega), if_neg e])]
        rw [foldI_skip p r 0 [] (Nat.zero_le _)]; rfl
      · rw [if_neg k4, foldI_congr (g := fun _ v (s : T_Row) => s ++ [v]) (fun i v s => by simp only [k4, false_and, if_false]), foldI_all, List.nil_append]
        by_cases k3 : d.1 = 3
        · rw [if_pos k3, if_pos k3]
        · rw [if_neg k3, if_neg k3, List.append_nil]
  refine (foldI_loop l (fun _ r (s : T_RowS) => if d.1 = 2 then s else s ++ [rowCh x d r]) (fun j k s => spec_RowsDdl_L1 n j (cColAt x.2.1 d.2.2.2.2.1) l (l.length : Int) (k : Int) d.1 x.1 d.2.2.1 d.2.2.2.1 d.2.2.2.2.1 d.2.2.2.2.2 s) (fun s => some (s, (0, ())))
    (fun k s => s.length ≤ k) (fun k hk' s hs => ?_) (fun j s hs => ?_) (fun j k s hk' hs => ?_) l n 0 [] rfl (by omega) (by omega) (Nat.le_refl 0)).trans ?_
  · split
    · omega
    · rw [List.length_append]; simp only [List.length_cons, List.length_nil]; omega
  · simp only [spec_RowsDdl_L1, lt_cast, Nat.lt_irrefl, decide_false, cond_false]
  · have := hL2 (fun y58 y59 y60 y61 y62 y63 y64 y65 y66 y67 y68 => spec_RowsDdl_L1 n j y58 y59 y60 y61 y62 y63 y64 y65 y66 y67 y68) l[k] k s (rows_lens hr _ (List.getElem_mem hk')) (by omega) (by omega)
    simp only [spec_RowsDdl_L1, lt_cast, decide_eq_true hk', inR_true hk', Int.toNat_natCast, getD_at hk', cond_true]
    exact this
  · congr 2
    by_cases k2 : d.1 = 2
    · rw [foldI_congr (g := fun _ _ (s : T_RowS) => s) (fun k r s => by rw [if_pos k2]), foldI_nop, if_pos k2]
    · rw [foldI_congr (g := fun _ r (s : T_RowS) => if false = true then s else s ++ [rowCh x d r]) (fun k r s => by rw [if_neg k2]; simp), filter_map_fold (fun _ => false) (rowCh x d), if_neg k2]
      rw [List.nil_append]
      congr 1
      exact List.filter_eq_self.mpr fun _ _ => rfl
theorem impl_RowsDdl_ok : EV fun n => ∀ (x : T_Table) (l : T_RowS) (d : T_Ddl), sm_Table 1048576 x → sm_RowS 1048576 l → sm_Ddl 1048576 d → impl_RowsDdl n x.1 x.2.1 x.2.2 l d.1 d.2.1 d.2.2.1 d.2.2.2.1 d.2.2.2.2.1 d.2.2.2.2.2 = some (cRowsDdl x l d) := (impl_RowsOk_ok.and (impl_DdlOk_ok.and (impl_ddlCode_ok.and (impl_ColAt_ok.and (impl_copyRows_ok.and (EV.gt 1048577)))))).up fun n ⟨h1, h2, h3, h4, h5, hn⟩ x l d hx hl hd => by
  obtain ⟨m, rfl⟩ : ∃ m, n = m + 1 := ⟨n - 1, by omega⟩
  have h4' : ∀ s, impl_ColAt (m + 1) x.1 x.2.1 x.2.2 s = some (cColAt x.2.1 s) := fun s => h4 _ _ _ _ hx.2.1.1
  simp only [impl_RowsDdl, h1 x l hx hl.1, h2 d hd, h4', Option.bind_some, text_eq, int_beq, int_bne, cRowsDdl]
  cases hr : cRowsOk x l
  · simp
  cases hk : cDdlOk d
  · simp
  have e3 := h3 [x] d ⟨by simp, fun t ht => by rw [List.mem_singleton.mp ht]; exact hx⟩ hk
  rw [show [(x.1, (x.2.1, x.2.2))] = [x] from rfl, e3]
  simp only [Bool.not_true, cond_false]
  by_cases hn1 : d.2.1 = x.1
  rotate_left
  · simp [hn1]
  by_cases k1 : d.1 = 1
  · simp [hn1, k1]
  have hlen := (rows_in hr).2.1
  simp only [hn1, k1, decide_true, decide_false, Bool.not_true, cond_false, Option.bind_some, ne_eq, not_false_eq_true, and_self, if_true, cCode_one hn1 k1]
  by_cases hf : cFault x d = 0
  rotate_left
  · simp only [hf, decide_false, Bool.not_false, cond_true, if_false]
  simp only [hf, decide_true, Bool.not_true, cond_false, if_true, h5 l hl, Option.bind_some]
  by_cases k2 : d.1 = 2
  · simp only [k2, decide_true, cond_true, if_true]
  simp only [k2, decide_false, cond_false, if_false]
  by_cases k3 : d.1 = 3
  · obtain ⟨c, hcs, _⟩ := ddlOk_3 hk k3
    simp only [k3, decide_true, cond_true]
    have loop : ∀ (t : T_RowS) (j k : Nat) (s : T_RowS), s.drop k = t → k ≤ s.length → t.length < j → s.length = l.length → (∀ r ∈ t, r.length ≤ 1048576) →
        impl_RowsDdl_L1 (m + 1) j (l.length : Int) (k : Int) 3 x.1 d.2.2.1 d.2.2.2.1 d.2.2.2.2.1 d.2.2.2.2.2 s = some (s.take k ++ t.map (rowCh x d), (0, ())) := by
      intro t
      induction t with
      | nil =>
        intro j k s hdr hkl hj hsl _
        obtain ⟨j, rfl⟩ : ∃ i, j = i + 1 := ⟨j - 1, by simp at hj; omega⟩
        have : k = s.length := by
          rcases Nat.lt_or_ge k s.length with h' | h'
          · rw [List.drop_eq_getElem_cons h'] at hdr; cases hdr
          · omega
        subst this
        simp only [impl_RowsDdl_L1, hsl, lt_cast, Nat.lt_irrefl, decide_false, cond_false]
        rw [← hsl, List.take_length]; simp
      | cons r t ih =>
        intro j k s hdr hkl hj hsl hrl
        obtain ⟨j, rfl⟩ : ∃ i, j = i + 1 := ⟨j - 1, by simp at hj; omega⟩
        obtain ⟨g2, g3, g4⟩ := drop_cons hdr []
        have hk2 : k < l.length := by omega
        have hrr := hrl r (List.mem_cons_self ..)
        have r1 : room (r.length + 1) 32 = true := by simp only [room, decide_eq_true_eq]; omega
        simp only [impl_RowsDdl_L1, lt_cast, decide_eq_true hk2, inR_true g2, Int.toNat_natCast, g3, cond_true, hcs, List.length_singleton, inR0, Int.toNat_zero, List.getD_cons_zero, r1, Nat.beq_refl, wrap_succ hk2 (by omega)]
        have := ih j (k + 1) (s.set k (r ++ [c.2.2.2.2])) (by rw [List.drop_set_of_lt (by omega)]; exact g4) (by simp; omega) (by simp at hj; omega) (by simpa using hsl) (fun r' hr' => hrl r' (List.mem_cons_of_mem _ hr'))
        rw [hcs] at this
        rw [this]
        have hset : (s.set k (r ++ [c.2.2.2.2])).take (k + 1) = s.take k ++ [r ++ [c.2.2.2.2]] := by
          rw [List.take_add_one, List.take_set_of_le (by omega), List.getElem?_set_self g2]; rfl
        rw [hset]
        simp [rowCh, k3, hcs]
    have := loop l (m + 1) 0 l rfl (by omega) (by omega) rfl fun r hr' => by
      have := rows_lens hr r hr'
      have := hx.2.1.1
      omega
    rw [List.take_zero, List.nil_append] at this
    exact this
  by_cases k4 : d.1 = 4
  · obtain ⟨p, ep, hp⟩ := out_col k4 hf
    simp only [k4, show ¬ (4 : Int) = 3 by decide, decide_false, cond_false, decide_true, cond_true, ep]
    have hcl := hx.2.1.1
    have loop : ∀ (t : T_RowS) (j k : Nat) (s : T_RowS), s.drop k = t → k ≤ s.length → t.length < j → s.length = l.length → (∀ r ∈ t, p < r.length) →
        impl_RowsDdl_L2 (m + 1) j (p : Int) (l.length : Int) (k : Int) s = some (s.take k ++ t.map (rowCh x d), (0, ())) := by
      intro t
      induction t with
      | nil =>
        intro j k s hdr hkl hj hsl _
        obtain ⟨j, rfl⟩ : ∃ i, j = i + 1 := ⟨j - 1, by simp at hj; omega⟩
        have : k = s.length := by
          rcases Nat.lt_or_ge k s.length with h' | h'
          · rw [List.drop_eq_getElem_cons h'] at hdr; cases hdr
          · omega
        subst this
        simp only [impl_RowsDdl_L2, hsl, lt_cast, Nat.lt_irrefl, decide_false, cond_false]
        rw [← hsl, List.take_length]; simp
      | cons r t ih =>
        intro j k s hdr hkl hj hsl hrl
        obtain ⟨j, rfl⟩ : ∃ i, j = i + 1 := ⟨j - 1, by simp at hj; omega⟩
        obtain ⟨g2, g3, g4⟩ := drop_cons hdr []
        have hk2 : k < l.length := by omega
        have hrr := hrl r (List.mem_cons_self ..)
        have wp : IntKind.wrap .i64 ((p : Int) + 1) = ((p + 1 : Nat) : Int) := by rw [wrap64] <;> omega
        simp only [impl_RowsDdl_L2, lt_cast, decide_eq_true hk2, inR_true g2, Int.toNat_natCast, g3, cond_true, slices_Delete_impl_Val_impl_Val, wp, del1 hrr, Option.bind_some, Nat.beq_refl, wrap_succ hk2 (by omega)]
        rw [ih j (k + 1) (s.set k (without r p)) (by rw [List.drop_set_of_lt (by omega)]; exact g4) (by simp; omega) (by simp at hj; omega) (by simpa using hsl) (fun r' hr' => hrl r' (List.mem_cons_of_mem _ hr'))]
        have hset : (s.set k (without r p)).take (k + 1) = s.take k ++ [without r p] := by
          rw [List.take_add_one, List.take_set_of_le (by omega), List.getElem?_set_self g2]; rfl
        rw [hset]
        simp [rowCh, k4, ep]
    have := loop l (m + 1) 0 l rfl (by omega) (by omega) rfl fun r hr' => by
      rw [rows_lens hr r hr']; exact hp
    rw [List.take_zero, List.nil_append] at this
    exact this
  · simp only [k3, k4, decide_false, cond_false]
    rw [show rowCh x d = id from funext fun r => by simp [rowCh, k3, k4], List.map_id]
theorem cRowsDdl_sm {x : T_Table} {l : T_RowS} {d : T_Ddl} (hx : sm_Table 1048576 x) (hl : sm_RowS 1048576 l) (hd : sm_Ddl 1048576 d) : sm_RowS 1048576 (cRowsDdl x l d).1 := by
  unfold cRowsDdl
  split
  · rename_i h
    obtain ⟨hr, hk, _, _⟩ := h
    split
    · dsimp only
      split
      · exact smr_nil
      · refine ⟨by rw [List.length_map]; exact hl.1, fun r hr' => ?_⟩
        obtain ⟨r0, h0, rfl⟩ := List.mem_map.mp hr'
        have hs := hl.2 r0 h0
        have h8 := (table_facts (rows_in hr).1).2.2.1
        have hrl := rows_lens hr r0 h0
        unfold rowCh
        split
        · exact ⟨Nat.le_trans (without_len _ _) hs.1, fun v hv => hs.2 v (without_mem hv)⟩
        · split
          · rename_i k3
            obtain ⟨c, hcs, _⟩ := ddlOk_3 hk k3
            refine ⟨by rw [List.length_append]; simp only [List.length_cons, List.length_nil]; omega, fun v hv => ?_⟩
            rcases List.mem_append.mp hv with hv | hv
            · exact hs.2 v hv
            · rw [hcs] at hv
              simp only [List.getD_cons_zero, List.mem_singleton] at hv
              have := hd.2.1.2 c (by rw [hcs]; simp)
              rw [hv]
              exact this.2
          · exact hs
    · exact smr_nil
  · exact smr_nil
theorem same_RowsDdl : EV fun n => ∀ (x0 : T_Table) (x1 : T_RowS) (x2 : T_Ddl), sm_Table 1048576 x0 → sm_RowS 1048576 x1 → sm_Ddl 1048576 x2 → ∃ r, spec_RowsDdl n x0.1 x0.2.1 x0.2.2 x1 x2.1 x2.2.1 x2.2.2.1 x2.2.2.2.1 x2.2.2.2.2.1 x2.2.2.2.2.2 = some r ∧ impl_RowsDdl n x0.1 x0.2.1 x0.2.2 x1 x2.1 x2.2.1 x2.2.2.1 x2.2.2.2.1 x2.2.2.2.2.1 x2.2.2.2.2.2 = some r ∧ sm_RowS 1048576 r.1 :=
  (spec_RowsDdl_ok.and impl_RowsDdl_ok).mono fun n ⟨h1, h2⟩ x l d hx hl hd => ⟨_, h1 x l d hx hl hd, h2 x l d hx hl hd, cRowsDdl_sm hx hl hd⟩
theorem law_RowsDdl : EV fun n => ∀ (x0 : T_Table) (x1 : T_RowS) (x2 : T_Ddl), sm_Table 140737488355328 x0 → sm_RowS 140737488355328 x1 → sm_Ddl 140737488355328 x2 → laws_FnExactRowsDdl n x0.1 x0.2.1 x0.2.2 x1 x2.1 x2.2.1 x2.2.2.1 x2.2.2.2.1 x2.2.2.2.2.1 x2.2.2.2.2.2 = some true := ((eqDdl_ok.and (eqRowS_ok.and (eqTable_ok.and (toDdl_ok.and (toRowS_ok.and (toTable_ok.and (szDdl_ok.and (szRowS_ok.and (szTable_ok.and (markDdl_ok.and (markRowS_ok.and (markTable_ok.and (heldRowS_ok.and same_RowsDdl)))))))))))))).up fun n h x0 x1 x2 w0 w1 w2 => by
  rw [laws_FnExactRowsDdl]
  refine law_sz (h.2.2.2.2.2.2.2.2.1 x0 (1048576 : Int) w0 (by decide) (by decide)) (by decide) (by decide) fun c0 l0 g0 g1 => ?_
  refine law_sz (h.2.2.2.2.2.2.2.1 x1 l0 w1 g0 (le_big g1)) g0 (g1) fun c1 l1 g2 g3 => ?_
  refine law_sz (h.2.2.2.2.2.2.1 x2 l1 w2 g2 (le_big g3)) g2 (g3) fun c2 l2 g4 g5 => ?_
  have s0 := cost_sm_Table (k := 1048576) c0
  have t0 := h.2.2.2.2.2.1 x0 s0
  have q0 := h.2.2.1 x0 x0 s0
  have s1 := cost_sm_RowS (k := 1048576) c1
  have t1 := h.2.2.2.2.1 x1 s1
  have q1 := h.2.1 x1 x1 s1
  have s2 := cost_sm_Ddl (k := 1048576) c2
  have t2 := h.2.2.2.1 x2 s2
  have q2 := h.1 x2 x2 s2
  obtain ⟨r, e1, e2, z0⟩ := h.2.2.2.2.2.2.2.2.2.2.2.2.2 x0 x1 x2 s0 s1 s2
  have u0 := h.2.1 r.1 r.1 z0
  have b0 := mb_Table s0
  have b1 := mb_RowS s1
  have b2 := mb_Ddl s2
  have m00 := h.2.2.2.2.2.2.2.2.2.2.2.1 x0 ((1 : Int)) s0 (by omega) (by simp only [markMax]; omega)
  have d00 : decide ((1 : Int) + (mc_Table x0 : Int) < 0) = false := decide_eq_false (by omega)
  have m01 := h.2.2.2.2.2.2.2.2.2.2.1 x1 ((1 : Int) + (mc_Table x0 : Int)) s1 (by omega) (by simp only [markMax]; omega)
  have d01 : decide ((1 : Int) + (mc_Table x0 : Int) + (mc_RowS x1 : Int) < 0) = false := decide_eq_false (by omega)
  have m02 := h.2.2.2.2.2.2.2.2.2.1 x2 ((1 : Int) + (mc_Table x0 : Int) + (mc_RowS x1 : Int)) s2 (by omega) (by simp only [markMax]; omega)
  have d02 : decide ((1 : Int) + (mc_Table x0 : Int) + (mc_RowS x1 : Int) + (mc_Ddl x2 : Int) < 0) = false := decide_eq_false (by omega)
  have b3 := mb_RowS z0
  have m10 := h.2.2.2.2.2.2.2.2.2.2.1 r.1 ((1 : Int)) z0 (by omega) (by simp only [markMax]; omega)
  have n10 := h.2.2.2.2.2.2.2.2.2.2.2.2.1 r.1 ((1 : Int)) z0 (by omega) (by simp only [markMax]; omega)
  have d10 : decide ((1 : Int) + (mc_RowS r.1 : Int) < 0) = false := decide_eq_false (by omega)
  simp only [t0, q0, t1, q1, t2, q2, e1, e2, u0, m00, d00, m01, d01, m02, d02, m10, n10, d10, Option.bind_some, decide_true, Bool.not_true, Bool.not_false, Bool.or_false, Bool.false_or, bne_self_eq_false, BEq.rfl, cond_true, cond_false]
end Go.Proofs.Ytjopjjmhpadncaa.Ev

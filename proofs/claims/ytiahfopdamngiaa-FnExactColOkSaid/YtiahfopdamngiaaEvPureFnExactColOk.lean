/- Words for the plain laws: what holds from some fuel on; steps of loops over lists; texts as lists of bytes. -/
import Derived.Test.YtiahfopdamngiaaEvFnFnExactColOk
import Derived.Test.YtiahfopdamngiaaEvLaw
set_option linter.all false
namespace Go.Proofs.Ytiahfopdamngiaa.Ev
open Go
set_option linter.unusedVariables false
/-- from some fuel on -/
def EV (p : Nat → Prop) : Prop := ∃ N, ∀ n, N ≤ n → p n
theorem EV.and {p q : Nat → Prop} (h1 : EV p) (h2 : EV q) : EV fun n => p n ∧ q n := by
  obtain ⟨N, h1⟩ := h1; obtain ⟨M, h2⟩ := h2
  exact ⟨max N M, fun n hn => ⟨h1 n (by omega), h2 n (by omega)⟩⟩
theorem EV.mono {p q : Nat → Prop} (h : EV p) (hpq : ∀ n, p n → q n) : EV q := by
  obtain ⟨N, h⟩ := h; exact ⟨N, fun n hn => hpq n (h n hn)⟩
theorem EV.gt (k : Nat) : EV fun n => k < n := ⟨k + 1, fun n hn => hn⟩
theorem EV.true : EV fun _ => True := ⟨0, fun _ _ => trivial⟩
theorem EV.of {p : Nat → Prop} (h : ∀ n, p n) : EV p := ⟨0, fun n _ => h n⟩
/-- one call deeper -/
theorem EV.up {p q : Nat → Prop} (h : EV p) (hpq : ∀ n, p n → q (n + 1)) : EV q := by
  obtain ⟨N, h⟩ := h
  refine ⟨N + 1, fun n hn => ?_⟩
  obtain ⟨m, rfl⟩ : ∃ m, n = m + 1 := ⟨n - 1, by omega⟩
  exact hpq m (h m (by omega))
theorem EV.all {α : Type} {p : α → Nat → Prop} : ∀ {l : List α}, (∀ x ∈ l, EV (p x)) → EV fun n => ∀ x ∈ l, p x n
  | [], _ => ⟨0, by simp⟩
  | a :: l, h => ((h a (List.mem_cons_self ..)).and (EV.all fun x hx => h x (List.mem_cons_of_mem _ hx))).mono fun n hn x hx => by
      rcases List.mem_cons.mp hx with rfl | hx
      · exact hn.1
      · exact hn.2 x hx
/-! ### whole numbers -/
theorem wrap64 {x : Int} (h1 : -9223372036854775808 ≤ x) (h2 : x ≤ 9223372036854775807) : IntKind.wrap .i64 x = x := by
  have e : IntKind.wrap .i64 x = (if x % 18446744073709551616 ≥ 9223372036854775808 then x % 18446744073709551616 - 18446744073709551616 else x % 18446744073709551616) := by
    simp [IntKind.wrap, IntKind.bits, IntKind.signed]
  rw [e]; split <;> omega
theorem inR_nat {k n : Nat} : inR (k : Int) n = decide (k < n) := by simp [inR]
theorem inR_true {k n : Nat} (h : k < n) : inR (k : Int) n = true := by simp [inR_nat, h]
theorem wrap_succ {k n : Nat} (h : k < n) (hn : n < 4611686018427387904) : IntKind.wrap .i64 ((k : Int) + (1 : Int)) = ((k + 1 : Nat) : Int) := by
  rw [wrap64] <;> omega
theorem lt_cast {k n : Nat} : (decide ((k : Int) < (n : Int))) = decide (k < n) := by simp
theorem getD_at {α : Type} {l : List α} {k : Nat} {z : α} (h : k < l.length) : l.getD k z = l[k] := by simp [List.getD, h]
theorem int_beq (a b : Int) : (a == b) = decide (a = b) := by by_cases h : a = b <;> simp [h]
theorem int_bne (a b : Int) : (a != b) = !decide (a = b) := by by_cases h : a = b <;> simp [bne, h]
/-! ### texts -/
theorem data_len (s : ByteArray) : s.data.toList.length = s.size := by rw [Array.length_toList]; rfl
theorem toList_data (s : ByteArray) : s.toList = s.data.toList := by
  have h : ∀ (n i : Nat) (r : List UInt8), s.size - i = n → ByteArray.toList.loop s i r = r.reverse ++ s.data.toList.drop i := by
    intro n
    induction n with
    | zero =>
      intro i r h
      unfold ByteArray.toList.loop
      rw [if_neg (by omega)]
      have : s.data.toList.length ≤ i := by rw [data_len]; omega
      simp [List.drop_eq_nil_of_le this]
    | succ n ih =>
      intro i r h
      unfold ByteArray.toList.loop
      rw [if_pos (by omega), ih (i + 1) _ (by omega)]
      have hi : i < s.data.toList.length := by rw [data_len]; omega
      rw [List.drop_eq_getElem_cons hi]
      have : s.get! i = s.data.toList[i] := by
        have hi' : i < s.data.size := by simpa using hi
        rw [ByteArray.get!, Array.getElem!_eq_getD]
        simp only [Array.getD, hi', dite_true]
        rfl
      simp [this]
  simpa [ByteArray.toList] using h s.size 0 [] (by omega)
theorem text_ext {a b : ByteArray} (h : a.data.toList = b.data.toList) : a = b := by
  obtain ⟨⟨a⟩⟩ := a; obtain ⟨⟨b⟩⟩ := b; simpa using h
theorem text_eq (a b : ByteArray) : (a.toList == b.toList) = decide (a = b) := by
  rw [toList_data, toList_data]
  by_cases h : a = b
  · subst h; simp
  · have : ¬ a.data.toList = b.data.toList := fun e => h (text_ext e)
    rw [decide_eq_false h]; exact beq_eq_false_iff_ne.mpr this
theorem text_eq' (a b : ByteArray) : (a.toList = b.toList) = (a = b) := by
  rw [toList_data, toList_data]
  exact propext ⟨text_ext, fun h => by rw [h]⟩
/-! ### loops over lists -/
theorem drop_cons {α : Type} {l : List α} {k : Nat} {x : α} {t : List α} (h : l.drop k = x :: t) (z : α) : k < l.length ∧ l.getD k z = x ∧ l.drop (k + 1) = t := by
  have hk : k < l.length := by
    rcases Nat.lt_or_ge k l.length with h' | h'
    · exact h'
    · rw [List.drop_eq_nil_of_le h'] at h; cases h
  rw [List.drop_eq_getElem_cons hk] at h
  obtain ⟨h1, h2⟩ := List.cons.inj h
  exact ⟨hk, by simp [List.getD, hk, h1], h2⟩
/-- a loop that goes along a list -/
theorem along {α S T : Type} (l : List α) (L : Nat → Nat → S → T) (G : List α → S → T) (hnil : ∀ j s, L (j + 1) l.length s = G [] s)
    (hcons : ∀ j k x t s, l.drop k = x :: t → k < l.length → (∀ s, L j (k + 1) s = G t s) → L (j + 1) k s = G (x :: t) s) :
    ∀ (t : List α) (j k : Nat) (s : S), l.drop k = t → k ≤ l.length → t.length < j → L j k s = G t s
  | [], j + 1, k, s, hd, hk, _ => by
    have : k = l.length := by
      rcases Nat.lt_or_ge k l.length with h' | h'
      · rw [List.drop_eq_getElem_cons h'] at hd; cases hd
      · omega
    subst this; exact hnil j s
  | x :: t, j + 1, k, s, hd, hk, hj => by
    have h := drop_cons hd x
    exact hcons j k x t s hd h.1 fun s => along l L G hnil hcons t j (k + 1) s h.2.2 (by omega) (by simp at hj; omega)
theorem along0 {α S T : Type} (l : List α) (L : Nat → Nat → S → T) (G : List α → S → T) {j : Nat} (hj : l.length < j) (s : S) (hnil : ∀ j s, L (j + 1) l.length s = G [] s)
    (hcons : ∀ j k x t s, l.drop k = x :: t → k < l.length → (∀ s, L j (k + 1) s = G t s) → L (j + 1) k s = G (x :: t) s) : L j 0 s = G l s :=
  along l L G hnil hcons l j 0 s rfl (by omega) hj
theorem set_take {α : Type} {s : List α} {k : Nat} {x : α} (h : k < s.length) (t : List α) : (s.set k x).take (k + 1) ++ t = s.take k ++ x :: t := by
  induction s generalizing k with
  | nil => simp at h
  | cons a s ih =>
    cases k with
    | zero => simp
    | succ k => simp at h; simp [ih h]
/-- a list is written anew, place by place -/
theorem copy_loop {α β : Type} (l : List α) (f : α → β) (L : Nat → Nat → List β → Option (List β)) (hexit : ∀ j s, L (j + 1) l.length s = some s)
    (hstep : ∀ j k s (h : k < l.length), s.length = l.length → L (j + 1) k s = L j (k + 1) (s.set k (f l[k]))) : ∀ (t : List α) (j k : Nat) (s : List β), l.drop k = t → k ≤ l.length → t.length < j → s.length = l.length → L j k s = some (s.take k ++ t.map f)
  | [], j + 1, k, s, hd, hk, _, hs => by
    have : k = l.length := by
      rcases Nat.lt_or_ge k l.length with h' | h'
      · rw [List.drop_eq_getElem_cons h'] at hd; cases hd
      · omega
    subst this
    rw [hexit, List.take_of_length_le (by omega)]; simp
  | x :: t, j + 1, k, s, hd, hk, hj, hs => by
    obtain ⟨h1, h2, h3⟩ := drop_cons hd x
    rw [hstep j k s h1 hs, copy_loop l f L hexit hstep t j (k + 1) _ h3 (by omega) (by simp at hj; omega) (by simpa using hs)]
    have hx : l[k] = x := by simpa [List.getD, h1] using h2
    rw [set_take (by omega), hx]; rfl
theorem copy_loop0 {α β : Type} (l : List α) (f : α → β) (L : Nat → Nat → List β → Option (List β)) {j : Nat} {s : List β} (hj : l.length < j) (hs : s.length = l.length) (hexit : ∀ j s, L (j + 1) l.length s = some s)
    (hstep : ∀ j k s (h : k < l.length), s.length = l.length → L (j + 1) k s = L j (k + 1) (s.set k (f l[k]))) : L j 0 s = some (l.map f) := by
  rw [copy_loop l f L hexit hstep l j 0 s rfl (by omega) hj hs]; simp
theorem bt_at {s : ByteArray} {k : Nat} (h : k < s.size) : bt s (k : Int) = ((s.data.toList[k]'(by rw [data_len]; exact h)).toNat : Int) := by
  simp only [bt, Int.toNat_natCast, h, dite_true]; rfl
theorem bt_drop {s : ByteArray} {k : Nat} {x : UInt8} {t : List UInt8} (h : s.data.toList.drop k = x :: t) : k < s.size ∧ bt s (k : Int) = (x.toNat : Int) := by
  obtain ⟨h1, h2, _⟩ := drop_cons h x
  have h3 : k < s.size := by rw [← data_len]; exact h1
  refine ⟨h3, ?_⟩
  rw [bt_at h3]
  rw [getD_at h1] at h2; rw [h2]
/-- a loop along a text -/
theorem alongT {S T : Type} (s : ByteArray) (L : Nat → Nat → S → T) (G : List UInt8 → S → T) (hnil : ∀ j st, L (j + 1) s.size st = G [] st)
    (hcons : ∀ j k x t st, s.data.toList.drop k = x :: t → k < s.size → bt s (k : Int) = (x.toNat : Int) → (∀ st, L j (k + 1) st = G t st) → L (j + 1) k st = G (x :: t) st) {j : Nat} (hj : s.size < j) (st : S) : L j 0 st = G s.data.toList st := by
  refine along0 s.data.toList L G (by rw [data_len]; exact hj) st (fun j st => by rw [data_len]; exact hnil j st) fun j k x t st hd hk ih => ?_
  obtain ⟨h1, h2⟩ := bt_drop hd
  exact hcons j k x t st hd h1 h2 ih
/-! ### sizes -/
def szR (c : Nat) (l : Int) : Int := if l < c then -1 else l - c
def big : Int := 1152921504606846976
theorem sz_str {r : Int → Option Int} {l : Int} {m c : Nat} (h0 : 0 ≤ l) (h1 : l ≤ big) (hm : (m : Int) ≤ big) (h : ∀ l', 0 ≤ l' → l' ≤ big → r l' = some (szR c l')) :
    (let v : Int := IntKind.wrap .i64 (l - (m : Int)); bif decide (v < (0 : Int)) then some (-1 : Int) else r v) = some (szR (m + c) l) := by
  simp only [big] at *
  rw [wrap64 (by omega) (by omega)]
  by_cases hl : l - (m : Int) < 0
  · rw [decide_eq_true hl, cond_true, szR, if_pos (by omega)]
  · rw [decide_eq_false hl, cond_false, h _ (by omega) (by omega)]
    simp only [szR]
    congr 1
    split <;> split <;> omega
theorem sz_call {r : Int → Option Int} {f : Option Int} {l : Int} {m c : Nat} (h0 : 0 ≤ l) (h1 : l ≤ big) (hf : f = some (szR m l)) (h : ∀ l', 0 ≤ l' → l' ≤ big → r l' = some (szR c l')) :
    (f.bind fun v => bif decide (v < (0 : Int)) then some (-1 : Int) else r v) = some (szR (m + c) l) := by
  rw [hf, Option.bind_some]
  by_cases hl : l < m
  · have : szR m l = -1 := if_pos hl
    rw [this, decide_eq_true (by omega), cond_true, szR, if_pos (by omega)]
  · have : szR m l = l - m := if_neg hl
    rw [this, decide_eq_false (by omega), cond_false, h _ (by omega) (by omega)]
    simp only [szR]
    congr 1
    split <;> split <;> omega
theorem sz_end {l : Int} (h0 : 0 ≤ l) : some l = some (szR 0 l) := by simp only [szR]; rw [if_neg (by omega)]; simp
theorem sz_loop {α : Type} (l : List α) (c : α → Nat) (L : Nat → Nat → Int → Option Int) (hexit : ∀ j s, L (j + 1) l.length s = some s)
    (hstep : ∀ j k s (h : k < l.length), 0 ≤ s → s ≤ big → L (j + 1) k s = if s < (c l[k] : Int) then some (-1) else L j (k + 1) (s - (c l[k] : Int))) :
    ∀ (t : List α) (j k : Nat) (s : Int), l.drop k = t → k ≤ l.length → t.length < j → 0 ≤ s → s ≤ big → L j k s = some (szR (t.map c).sum s)
  | [], j + 1, k, s, hd, hk, _, h0, h1 => by
    have : k = l.length := by
      rcases Nat.lt_or_ge k l.length with h' | h'
      · rw [List.drop_eq_getElem_cons h'] at hd; cases hd
      · omega
    subst this
    rw [hexit]; exact sz_end h0
  | x :: t, j + 1, k, s, hd, hk, hj, h0, h1 => by
    obtain ⟨h2, h3, h4⟩ := drop_cons hd x
    have hx : l[k] = x := by simpa [List.getD, h2] using h3
    rw [hstep j k s h2 h0 h1, hx]
    simp only [List.map_cons, List.sum_cons]
    split
    · rw [szR, if_pos (by omega)]
    · rw [sz_loop l c L hexit hstep t j (k + 1) _ h4 (by omega) (by simp at hj; omega) (by omega) (by omega)]
      simp only [szR]
      congr 1
      split <;> split <;> omega
theorem le_sum {α : Type} {f : α → Nat} : ∀ {l : List α} {x : α}, x ∈ l → f x ≤ (l.map f).sum
  | a :: l, x, h => by
    simp only [List.map_cons, List.sum_cons]
    rcases List.mem_cons.mp h with rfl | h
    · omega
    · have := le_sum (f := f) h; omega
theorem szR_step {c : Nat} {s : Int} (R : Int → Option Int) (b : Option Int) (h0 : 0 ≤ s) : (bif decide (szR c s < 0) then b else R (szR c s)) = if s < (c : Int) then b else R (s - (c : Int)) := by
  by_cases h : s < (c : Int)
  · have : szR c s = -1 := if_pos h
    rw [this, if_pos h]; rfl
  · have : szR c s = s - c := if_neg h
    rw [this, if_neg h, decide_eq_false (by omega)]; rfl
theorem eq_step {α : Type} [DecidableEq α] (x y : α) (R : Option Bool) : (bif !decide (x = y) then some false else R) = if x = y then R else some false := by
  by_cases h : x = y <;> simp [h]
theorem eq_step2 (x y : Int) (R : Option Bool) : (bif x != y then some false else R) = if x = y then R else some false := by
  by_cases h : x = y
  · subst h; simp
  · rw [if_neg h, show (x != y) = true by simpa using h]; rfl
theorem eq_step3 (x y : Bool) (R : Option Bool) : (bif !(x == y) then some false else R) = if x = y then R else some false := by
  cases x <;> cases y <;> rfl
theorem eq_last {p : Prop} [Decidable p] : (if p then some true else some false) = some (decide p) := by by_cases h : p <;> simp [h]
theorem eq_and {p q : Prop} [Decidable p] [Decidable q] : (if p then some (decide q) else some false) = some (decide (p ∧ q)) := by by_cases h : p <;> simp [h]
theorem str_step {c : Nat} {s : Int} (a b : Option Int) : (bif decide (s - (c : Int) < 0) then a else b) = if s < (c : Int) then a else b := by
  by_cases h : s < (c : Int)
  · rw [if_pos h, decide_eq_true (by omega)]; rfl
  · rw [if_neg h, decide_eq_false (by omega)]; rfl
theorem eq_end : ∀ b : Bool, (bif !b then some false else some true) = some b := by intro b; cases b <;> rfl
theorem bif_ite {α : Type} {p : Prop} [Decidable p] {q : Prop} [Decidable q] (h : p ↔ q) (a b : α) : (bif decide p then a else b) = if q then a else b := by
  by_cases hp : p <;> simp [hp, h.mp, ← h]
/-! ### lists compared -/
theorem eq_loop {α : Type} [DecidableEq α] (l m : List α) (hlm : l.length = m.length) (L : Nat → Nat → Option Bool) (hexit : ∀ j, L (j + 1) l.length = some true)
    (hstep : ∀ j k (h : k < l.length) (h' : k < m.length), L (j + 1) k = if l[k] = m[k] then L j (k + 1) else some false) :
    ∀ (t : List α) (j k : Nat), l.drop k = t → k ≤ l.length → t.length < j → L j k = some (decide (t = m.drop k))
  | [], j + 1, k, hd, hk, _ => by
    have : k = l.length := by
      rcases Nat.lt_or_ge k l.length with h' | h'
      · rw [List.drop_eq_getElem_cons h'] at hd; cases hd
      · omega
    subst this
    rw [hexit, List.drop_eq_nil_of_le (by omega)]; simp
  | x :: t, j + 1, k, hd, hk, hj => by
    obtain ⟨h2, h3, h4⟩ := drop_cons hd x
    have hx : l[k] = x := by simpa [List.getD, h2] using h3
    rw [hstep j k h2 (by omega), hx, List.drop_eq_getElem_cons (show k < m.length by omega)]
    split
    · rename_i e
      rw [eq_loop l m hlm L hexit hstep t j (k + 1) h4 (by omega) (by simp at hj; omega)]
      congr 1; exact decide_eq_decide.mpr ⟨fun h => by rw [e, h], fun h => (List.cons.inj h).2⟩
    · rename_i e
      congr 1; exact (decide_eq_false fun h => e (List.cons.inj h).1).symm
/-! ### searches -/
def idxFrom {α : Type} (p : α → Bool) : List α → Nat → Int
  | [], _ => -1
  | x :: t, k => if p x = true then (k : Int) else idxFrom p t (k + 1)
def idx {α : Type} (p : α → Bool) (l : List α) : Int := idxFrom p l 0
theorem find_loop {α : Type} (p : α → Bool) (l : List α) (L : Nat → Nat → Option Int) (hexit : ∀ j, L (j + 1) l.length = some (-1))
    (hstep : ∀ j k (h : k < l.length), L (j + 1) k = if p l[k] = true then some (k : Int) else L j (k + 1)) :
    ∀ (t : List α) (j k : Nat), l.drop k = t → k ≤ l.length → t.length < j → L j k = some (idxFrom p t k)
  | [], j + 1, k, hd, hk, _ => by
    have : k = l.length := by
      rcases Nat.lt_or_ge k l.length with h' | h'
      · rw [List.drop_eq_getElem_cons h'] at hd; cases hd
      · omega
    subst this; rw [hexit]; rfl
  | x :: t, j + 1, k, hd, hk, hj => by
    obtain ⟨h2, h3, h4⟩ := drop_cons hd x
    have hx : l[k] = x := by simpa [List.getD, h2] using h3
    rw [hstep j k h2, hx, find_loop p l L hexit hstep t j (k + 1) h4 (by omega) (by simp at hj; omega)]
    simp only [idxFrom]; split <;> rfl
theorem all_loop {α : Type} (p : α → Bool) (l : List α) (L : Nat → Nat → Option Bool) (r : Option Bool) (hexit : ∀ j, L (j + 1) l.length = r)
    (hstep : ∀ j k (h : k < l.length), L (j + 1) k = if p l[k] = true then L j (k + 1) else some false) :
    ∀ (t : List α) (j k : Nat), l.drop k = t → k ≤ l.length → t.length < j → L j k = if t.all p = true then r else some false
  | [], j + 1, k, hd, hk, _ => by
    have : k = l.length := by
      rcases Nat.lt_or_ge k l.length with h' | h'
      · rw [List.drop_eq_getElem_cons h'] at hd; cases hd
      · omega
    subst this; rw [hexit]; rfl
  | x :: t, j + 1, k, hd, hk, hj => by
    obtain ⟨h2, h3, h4⟩ := drop_cons hd x
    have hx : l[k] = x := by simpa [List.getD, h2] using h3
    rw [hstep j k h2, hx, all_loop p l L r hexit hstep t j (k + 1) h4 (by omega) (by simp at hj; omega)]
    by_cases hp : p x = true <;> simp [hp]
theorem bif_step {b : Bool} {α : Type} (x y : α) : (bif !b then y else x) = if b = true then x else y := by cases b <;> rfl
theorem bif_step' {b : Bool} {α : Type} (x y : α) : (bif b then x else y) = if b = true then x else y := by cases b <;> rfl
theorem le_big {l : Int} (h : l ≤ 1048576) : l ≤ big := by simp only [big]; omega
theorem law_sz {r : Int → Option Bool} {f : Option Int} {l : Int} {m : Nat} (hf : f = some (szR m l)) (h0 : 0 ≤ l) (h1 : l ≤ 1048576) (h : m ≤ 1048576 → ∀ l', 0 ≤ l' → l' ≤ 1048576 → r l' = some true) :
    (f.bind fun v => bif decide (v < (0 : Int)) then some true else r v) = some true := by
  rw [hf, Option.bind_some]
  by_cases hl : l < m
  · have : szR m l = -1 := if_pos hl
    rw [this]; rfl
  · have : szR m l = l - m := if_neg hl
    rw [this, decide_eq_false (by omega), cond_false]
    exact h (by omega) _ (by omega) (by omega)
theorem law_str {r : Option Bool} {m : Nat} (h : m ≤ 1048576 → r = some true) : (let v : Bool := decide ((1048576 : Int) < (m : Int)); bif v then some true else r) = some true := by
  by_cases hl : (1048576 : Int) < (m : Int)
  · simp [hl]
  · simp only [decide_eq_false hl, cond_false]; exact h (by omega)
abbrev T_Val := Int × (Int × (ByteArray))
instance i_Val : DecidableEq T_Val := @instDecidableEqProd _ _ inferInstance (@instDecidableEqProd _ _ inferInstance (inferInstance))
def cost_Val (x : T_Val) : Nat := x.2.2.size + (0)
def sm_Val (k : Nat) (x : T_Val) : Prop := x.2.2.size ≤ k
theorem cost_sm_Val {k : Nat} {x : T_Val} (h : cost_Val x ≤ k) : sm_Val k x := by
  unfold cost_Val at h
  unfold sm_Val
  exact by omega
theorem toVal_ok : EV fun n => ∀ x : T_Val, sm_Val 1048576 x → laws_toVal n x.1 x.2.1 x.2.2 = some x := EV.true.up fun n h x hs => by
  unfold sm_Val at hs
  simp only [laws_toVal, Option.bind_some]
theorem szVal_ok : EV fun n => ∀ (x : T_Val) (l : Int), sm_Val 140737488355328 x → 0 ≤ l → l ≤ big → laws_szVal n x.1 x.2.1 x.2.2 l = some (szR (cost_Val x) l) := EV.true.up fun n h x l0 hs g0 g1 => by
  unfold sm_Val at hs
  rw [laws_szVal]
  unfold cost_Val
  exact sz_str (m := x.2.2.size) g0 g1 (by have := hs; simp only [big]; omega) fun l1 g2 g3 => sz_end g2
abbrev T_Col := ByteArray × (Int × (Bool × (Bool × (T_Val))))
instance i_Col : DecidableEq T_Col := @instDecidableEqProd _ _ inferInstance (@instDecidableEqProd _ _ inferInstance (@instDecidableEqProd _ _ inferInstance (@instDecidableEqProd _ _ inferInstance (inferInstance))))
def cost_Col (x : T_Col) : Nat := x.1.size + (cost_Val x.2.2.2.2 + (0))
def sm_Col (k : Nat) (x : T_Col) : Prop := x.1.size ≤ k ∧ sm_Val k x.2.2.2.2
theorem cost_sm_Col {k : Nat} {x : T_Col} (h : cost_Col x ≤ k) : sm_Col k x := by
  unfold cost_Col at h
  unfold sm_Col
  exact ⟨by omega, cost_sm_Val (by omega)⟩
theorem toCol_ok : EV fun n => ∀ x : T_Col, sm_Col 1048576 x → laws_toCol n x.1 x.2.1 x.2.2.1 x.2.2.2.1 x.2.2.2.2.1 x.2.2.2.2.2.1 x.2.2.2.2.2.2 = some x := (toVal_ok.and EV.true).up fun n h x hs => by
  unfold sm_Col at hs
  have e0 : laws_toVal n x.2.2.2.2.1 x.2.2.2.2.2.1 x.2.2.2.2.2.2 = some x.2.2.2.2 := h.1 x.2.2.2.2 (hs.2)
  simp only [laws_toCol, e0, Option.bind_some]
theorem szCol_ok : EV fun n => ∀ (x : T_Col) (l : Int), sm_Col 140737488355328 x → 0 ≤ l → l ≤ big → laws_szCol n x.1 x.2.1 x.2.2.1 x.2.2.2.1 x.2.2.2.2.1 x.2.2.2.2.2.1 x.2.2.2.2.2.2 l = some (szR (cost_Col x) l) := (szVal_ok.and EV.true).up fun n h x l0 hs g0 g1 => by
  unfold sm_Col at hs
  rw [laws_szCol]
  unfold cost_Col
  exact sz_str (m := x.1.size) g0 g1 (by have := hs.1; simp only [big]; omega) fun l1 g2 g3 => sz_call g2 g3 (h.1 x.2.2.2.2 l1 (hs.2) g2 g3) fun l2 g4 g5 => sz_end g4
theorem wf_str {n : Nat} (h : n ≤ reachBytes) : n ≤ 140737488355328 := Nat.le_trans h (by decide)
theorem wf_len {n b : Nat} (hb : 1 ≤ b) (h : n * b ≤ reachBytes) : n ≤ 140737488355328 := Nat.le_trans (Nat.le_trans (Nat.le_mul_of_pos_right n hb) h) (by decide)
abbrev K_Val : Kd := .pair (.int .i64) (.pair (.int .i64) (.str))
theorem wf_Val {B : Kd → Nat} (hB : ∀ g, 1 ≤ B g) (x : T_Val) (h : Wf B K_Val x) : sm_Val 140737488355328 x := wf_str h.2.2
abbrev K_Col : Kd := .pair .str (.pair (.int .i64) (.pair .bool (.pair .bool (K_Val))))
theorem wf_Col {B : Kd → Nat} (hB : ∀ g, 1 ≤ B g) (x : T_Col) (h : Wf B K_Col x) : sm_Col 140737488355328 x := ⟨wf_str h.1, wf_Val hB x.2.2.2.2 h.2.2.2.2⟩
abbrev E0 : ByteArray := ⟨#[]⟩
/-! ### words, numbers, values -/
theorem within_ok : EV fun n => ∀ a b c, impl_within n a b c = some (decide (b ≤ a ∧ a ≤ c)) := EV.true.up fun n _ a b c => by
  simp only [impl_within]
  by_cases h : b ≤ a <;> simp [h]
theorem l01Num_ok : EV fun n => ∀ a, spec_l01Num n a = some (decide (-1099511627775 ≤ a ∧ a ≤ 1099511627775)) := EV.true.up fun n _ a => by
  simp only [spec_l01Num]
  by_cases h : -1099511627775 ≤ a <;> simp [h]
def lower (b : UInt8) : Bool := decide (97 ≤ b.toNat ∧ b.toNat ≤ 122)
def cWordOk (s : ByteArray) : Bool := s.data.toList.all lower && decide (1 ≤ s.size ∧ s.size ≤ 8)
theorem spec_WordOk_ok : EV fun n => ∀ s : ByteArray, s.size ≤ 1048576 → spec_WordOk n s = some (cWordOk s) := (EV.gt 1048576).up fun n h s hs => by
  rw [spec_WordOk]
  refine (alongT s (fun j k (_ : Unit) => spec_WordOk_L1 n j s (k : Int)) (fun t _ => some (t.all lower && decide (1 ≤ s.size ∧ s.size ≤ 8))) (fun j _ => ?_) (fun j k x t _ hd hk hb ih => ?_) (by omega) ())
  · simp only [spec_WordOk_L1, lt_cast, Nat.lt_irrefl, decide_false, cond_false, List.all_nil, Bool.true_and]
    by_cases h1 : (1 : Int) ≤ (s.size : Int)
    · simp only [decide_eq_true h1, cond_true]; congr 1; exact decide_eq_decide.mpr (by omega)
    · simp only [decide_eq_false h1, cond_false]; congr 1; exact (decide_eq_false (by omega)).symm
  · simp only [spec_WordOk_L1, lt_cast, decide_eq_true hk, inR_true hk, cond_true, hb, wrap_succ hk (by omega), List.all_cons]
    have := ih ()
    rw [this]
    by_cases h1 : (x.toNat : Int) < 97
    · have : lower x = false := decide_eq_false (by omega)
      simp only [decide_eq_true h1, cond_true, this, Bool.false_and]
    · by_cases h2 : (122 : Int) < (x.toNat : Int)
      · have : lower x = false := decide_eq_false (by omega)
        simp only [decide_eq_true h2, decide_eq_false h1, cond_true, cond_false, this, Bool.false_and]
      · have : lower x = true := decide_eq_true (by omega)
        simp only [decide_eq_false h2, decide_eq_false h1, cond_false, this, Bool.true_and]
theorem impl_WordOk_ok : EV fun n => ∀ s : ByteArray, s.size ≤ 1048576 → impl_WordOk n s = some (cWordOk s) := (within_ok.and (EV.gt 1048576)).up fun n ⟨hw, h⟩ s hs => by
  rw [impl_WordOk]
  refine (alongT s (fun j k (_ : Unit) => impl_WordOk_L1 n j s (k : Int)) (fun t _ => some (t.all lower && decide (1 ≤ s.size ∧ s.size ≤ 8))) (fun j _ => ?_) (fun j k x t _ hd hk hb ih => ?_) (by omega) ())
  · simp only [impl_WordOk_L1, lt_cast, Nat.lt_irrefl, decide_false, cond_false, List.all_nil, Bool.true_and, hw, Option.bind_some]
    congr 1; exact decide_eq_decide.mpr (by omega)
  · simp only [impl_WordOk_L1, lt_cast, decide_eq_true hk, inR_true hk, cond_true, hb, wrap_succ hk (by omega), List.all_cons]
    have := ih ()
    rw [this]
    by_cases h1 : (x.toNat : Int) < 97
    · have : lower x = false := decide_eq_false (by omega)
      simp only [decide_eq_true h1, cond_true, this, Bool.false_and]
    · by_cases h2 : (122 : Int) < (x.toNat : Int)
      · have : lower x = false := decide_eq_false (by omega)
        simp only [decide_eq_true h2, decide_eq_false h1, cond_true, cond_false, this, Bool.false_and]
      · have : lower x = true := decide_eq_true (by omega)
        simp only [decide_eq_false h2, decide_eq_false h1, cond_false, this, Bool.true_and]
def cValOk (a b : Int) (s : ByteArray) : Bool :=
  if a = 0 then decide (b = 0) && decide (s = E0) else if a = 1 then decide (b = 0 ∨ b = 1) && decide (s = E0) else
  if a = 2 then decide (-1099511627775 ≤ b ∧ b ≤ 1099511627775) && decide (s = E0) else if a = 3 then decide (b = 0) && decide (s.size ≤ 30) else false
theorem spec_ValOk_ok : EV fun n => ∀ a b s, spec_ValOk n a b s = some (cValOk a b s) := l01Num_ok.up fun n h a b s => by
  have hz : decide ((s.size : Int) ≤ 30) = decide (s.size ≤ 30) := decide_eq_decide.mpr (by omega)
  simp only [spec_ValOk, h, text_eq, Option.bind_some, int_beq, hz]
  generalize he : decide (s = E0) = e
  have he' : decide (s = ⟨#[]⟩) = e := he
  simp only [cValOk, he, he']
  by_cases h0 : a = 0
  · subst h0; by_cases hb : b = 0 <;> simp [hb]
  · by_cases h1 : a = 1
    · subst h1; by_cases hb : b = 0
      · simp [hb]
      · by_cases hb1 : b = 1 <;> simp [hb, hb1]
    · by_cases h2 : a = 2
      · subst h2; by_cases hb : -1099511627775 ≤ b ∧ b ≤ 1099511627775 <;> simp [hb]
      · by_cases h3 : a = 3
        · subst h3; by_cases hb : b = 0 <;> simp [hb]
        · simp [h0, h1, h2, h3]
theorem impl_ValOk_ok : EV fun n => ∀ a b s, impl_ValOk n a b s = some (cValOk a b s) := within_ok.up fun n h a b s => by
  have hz : decide ((s.size : Int) ≤ 30) = decide (s.size ≤ 30) := decide_eq_decide.mpr (by omega)
  simp only [impl_ValOk, h, text_eq, Option.bind_some, int_beq, hz]
  generalize he : decide (s = E0) = e
  have he' : decide (s = ⟨#[]⟩) = e := he
  simp only [cValOk, he, he']
  by_cases h0 : a = 0
  · subst h0; by_cases hb : b = 0 <;> simp [hb]
  · by_cases h1 : a = 1
    · subst h1; by_cases hb : b = 0
      · simp [hb]
      · by_cases hb1 : b = 1
        · simp [hb, hb1]
        · have : ¬ (0 ≤ b ∧ b ≤ 1) := by omega
          simp [hb, hb1, this]
    · by_cases h2 : a = 2
      · subst h2; by_cases hb : -1099511627775 ≤ b ∧ b ≤ 1099511627775 <;> simp [hb]
      · by_cases h3 : a = 3
        · subst h3; by_cases hb : b = 0 <;> simp [hb]
        · simp [h0, h1, h2, h3]
def cValLess (x y : T_Val) : Bool :=
  cValOk x.1 x.2.1 x.2.2 && cValOk y.1 y.2.1 y.2.2 && (if x.1 = y.1 then (if x.2.1 = y.2.1 then Op.bytesLess x.2.2.toList y.2.2.toList else decide (x.2.1 < y.2.1)) else decide (x.1 < y.1))
def null : T_Val := (0, 0, E0)
def cColOk (x : T_Col) : Bool :=
  cWordOk x.1 && decide (1 ≤ x.2.1 ∧ x.2.1 ≤ 3) && (if x.2.2.2.1 then cValOk x.2.2.2.2.1 x.2.2.2.2.2.1 x.2.2.2.2.2.2 && (decide (x.2.2.2.2.1 = x.2.1) || decide (x.2.2.2.2.1 = 0) && !x.2.2.1) else decide (x.2.2.2.2 = null))
theorem null_eq (a b : Int) (s : ByteArray) : ((a == (0 : Int)) && ((b == (0 : Int)) && (decide (s = E0) && true))) = decide ((a, b, s) = null) := by
  by_cases h1 : a = 0 <;> by_cases h2 : b = 0 <;> by_cases h3 : s = E0 <;> simp [null, h1, h2, h3]
theorem spec_ColOk_ok : EV fun n => ∀ x : T_Col, sm_Col 1048576 x → spec_ColOk n x.1 x.2.1 x.2.2.1 x.2.2.2.1 x.2.2.2.2.1 x.2.2.2.2.2.1 x.2.2.2.2.2.2 = some (cColOk x) := (spec_WordOk_ok.and spec_ValOk_ok).up fun n ⟨h1, h2⟩ x hs => by
  obtain ⟨a, t, nt, hs', v⟩ := x
  obtain ⟨b, c, s⟩ := v
  have hw := h1 a hs.1
  simp only [spec_ColOk, hw, h2, Option.bind_some, text_eq, null_eq, cColOk]
  cases cWordOk a
  · simp
  by_cases c1 : t < 1
  · simp [c1]; omega
  by_cases c2 : 3 < t
  · simp [c1, c2]; omega
  have c3 : 1 ≤ t ∧ t ≤ 3 := by omega
  simp only [Bool.not_true, cond_false, decide_eq_false c1, decide_eq_false c2, decide_eq_true c3, Bool.true_and]
  cases hs' <;> simp
  cases hv : cValOk b c s
  · simp
  by_cases hn : (b, c, s) = null
  · have h0 : ¬ (0 : Int) = t := by omega
    simp only [null, Prod.mk.injEq] at hn; obtain ⟨rfl, rfl, rfl⟩ := hn
    cases nt <;> simp [null, h0]
  · by_cases hbt : b = t
    · subst hbt; cases nt <;> simp [hn, int_beq]
    · by_cases hb : b = 0
      · exfalso
        subst hb
        simp [cValOk] at hv
        exact hn (by simp [null, hv])
      · cases nt <;> simp [hn, hbt, hb, int_beq]
theorem impl_ColOk_ok : EV fun n => ∀ x : T_Col, sm_Col 1048576 x → impl_ColOk n x.1 x.2.1 x.2.2.1 x.2.2.2.1 x.2.2.2.2.1 x.2.2.2.2.2.1 x.2.2.2.2.2.2 = some (cColOk x) := (impl_WordOk_ok.and (impl_ValOk_ok.and within_ok)).up fun n ⟨h1, h2, h3⟩ x hs => by
  obtain ⟨a, t, nt, hs', v⟩ := x
  obtain ⟨b, c, s⟩ := v
  have hw := h1 a hs.1
  simp only [impl_ColOk, hw, h2, h3, Option.bind_some, text_eq, null_eq, cColOk]
  cases cWordOk a
  · simp
  by_cases c3 : 1 ≤ t ∧ t ≤ 3
  · simp only [Bool.not_true, cond_false, decide_eq_true c3, Bool.true_and]
    cases hs'
    · by_cases hn : (b, c, s) = null
      · have : cValOk b c s = true := by
          simp [null] at hn; obtain ⟨rfl, rfl, rfl⟩ := hn; rfl
        simp [hn, this]
      · cases cValOk b c s <;> simp [hn]
    · cases cValOk b c s <;> simp
      by_cases hbt : b = t
      · simp [hbt, int_beq]
      · by_cases hb : b = 0
        · subst hb; cases nt <;> simp [hbt, int_beq]
        · simp [hbt, hb, int_beq]
  · simp [decide_eq_false c3]
theorem same_ColOk : EV fun n => ∀ (x0 : T_Col), sm_Col 1048576 x0 → ∃ r, spec_ColOk n x0.1 x0.2.1 x0.2.2.1 x0.2.2.2.1 x0.2.2.2.2.1 x0.2.2.2.2.2.1 x0.2.2.2.2.2.2 = some r ∧ impl_ColOk n x0.1 x0.2.1 x0.2.2.1 x0.2.2.2.1 x0.2.2.2.2.1 x0.2.2.2.2.2.1 x0.2.2.2.2.2.2 = some r :=
  (spec_ColOk_ok.and impl_ColOk_ok).mono fun n h x hs => ⟨_, h.1 x hs, h.2 x hs⟩
theorem val_eq (x y : T_Val) : ((x.1 == y.1) && ((x.2.1 == y.2.1) && ((x.2.2.toList == y.2.2.toList) && true))) = decide (x = y) := by
  obtain ⟨a, b, s⟩ := x; obtain ⟨c, d, t⟩ := y
  simp only [text_eq, int_beq]
  by_cases h1 : a = c <;> by_cases h2 : b = d <;> by_cases h3 : s = t <;> simp [h1, h2, h3]
theorem law_ColOk : EV fun n => ∀ (x0 : T_Col), sm_Col 140737488355328 x0 → laws_FnExactColOk n x0.1 x0.2.1 x0.2.2.1 x0.2.2.2.1 x0.2.2.2.2.1 x0.2.2.2.2.2.1 x0.2.2.2.2.2.2 = some true := ((toCol_ok.and (szCol_ok.and same_ColOk))).up fun n h x0 w0 => by
  rw [laws_FnExactColOk]
  refine law_sz (h.2.1 x0 (1048576 : Int) w0 (by decide) (by decide)) (by decide) (by decide) fun c0 l0 g0 g1 => ?_
  have s0 := cost_sm_Col (k := 1048576) c0
  have t0 := h.1 x0 s0
  obtain ⟨r, e1, e2⟩ := h.2.2 x0 s0
  simp [t0, e1, e2]
end Go.Proofs.Ytiahfopdamngiaa.Ev

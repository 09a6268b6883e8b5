/- The pure part of the law FnExactTextStmt, second half: what the program computes answers as the statement says, for every input. -/
import Derived.Test.YtmkiekipgfmggaaEvPureAFnExactTextStmt
set_option linter.all false
namespace Go.Proofs.Ytmkiekipgfmggaa.Ev
open Go
theorem impl_quoted_loop (n : Nat) (hh : ∀ x : Int, ∃ i, impl_figure n x = some i ∧ (i = -1 ∨ (0 ≤ i ∧ i < 16)) ∧ ∀ q : Nat, q < 16 → x = hexd q → i = (q : Int))
    (s : ByteArray) (hs : s.size ≤ 1048576) : ∀ (m j k : Nat) (acc : List Int), s.size - k ≤ m → m < j → k ≤ s.size → acc.length ≤ k →
    ∃ r, impl_quoted_L1 n j s (k : Int) acc = some r ∧ r.1.size ≤ s.size ∧ ∀ t : List UInt8, (sI s).drop k = quoteL t ++ [] → r = (strOfNums (acc ++ t.map fun b => (b.toNat : Int)), (true, ())) := by
  have hexit : ∀ (j k : Nat) (acc : List Int), ¬ k < s.size → k ≤ s.size → acc.length ≤ k →
      ∃ r, impl_quoted_L1 n (j + 1) s (k : Int) acc = some r ∧ r.1.size ≤ s.size ∧ ∀ t : List UInt8, (sI s).drop k = quoteL t ++ [] → r = (strOfNums (acc ++ t.map fun b => (b.toNat : Int)), (true, ())) := by
    intro j k acc hc hk ha
    refine ⟨(strOfNums acc, (true, ())), ?_, by simp only [nums_size]; omega, fun t ht => ?_⟩
    · simp only [impl_quoted_L1, lt_cast]
      rw [decide_eq_false hc, cond_false]
    · have e := congrArg List.length ht
      rw [List.length_drop, sI_len, List.length_append, List.length_nil] at e
      cases t with
      | nil => simp
      | cons b t =>
        have : 1 ≤ (quoteB b).length := by unfold quoteB; split <;> simp
        simp only [quoteL, List.length_append] at e; omega
  intro m
  induction m with
  | zero =>
    intro j k acc hm hj hk ha
    obtain ⟨j, rfl⟩ : ∃ i, j = i + 1 := ⟨j - 1, by omega⟩
    exact hexit j k acc (by omega) hk ha
  | succ m ih =>
    intro j k acc hm hj hk ha
    obtain ⟨j, rfl⟩ : ∃ i, j = i + 1 := ⟨j - 1, by omega⟩
    by_cases hks : k < s.size
    · have r2 : ∀ x : Int, room (acc.length + ([x] : List Int).length) 1 = true := fun x => room1 (by simp; omega)
      have w2 : IntKind.wrap .i64 ((k : Int) + (2 : Int)) = ((k + 2 : Nat) : Int) := wrap_add (d := 2) hks (by omega) (by decide)
      have w1 : IntKind.wrap .i64 ((k : Int) + (1 : Int)) = ((k + 1 : Nat) : Int) := wrap_succ hks (by omega)
      simp only [impl_quoted_L1, lt_cast]
      rw [decide_eq_true hks]
      simp only [cond_true, inR_true hks, int_bne, w1, w2, r2]
      by_cases h37 : bt s (k : Int) = 37
      · rw [decide_eq_true h37]
        simp only [Bool.not_true, cond_false]
        by_cases h2 : k + 2 < s.size
        · obtain ⟨i1, a1, a2, a3⟩ := hh (bt s ((k + 1 : Nat) : Int))
          obtain ⟨i2, b1, b2, b3⟩ := hh (bt s ((k + 2 : Nat) : Int))
          have w3 : IntKind.wrap .i64 (((k + 2 : Nat) : Int) + (1 : Int)) = ((k + 3 : Nat) : Int) := wrap_succ h2 (by omega)
          rw [decide_eq_false (show ¬ (s.size : Int) ≤ ((k + 2 : Nat) : Int) by omega)]
          simp only [cond_false, cond_true, inR_true h2, inR_true (show k + 1 < s.size by omega), a1, b1, Option.bind_some, w3]
          have nocase : ∀ t : List UInt8, (sI s).drop k = quoteL t ++ [] → ∃ c' t', t = c' :: t' ∧ i1 = ((c'.toNat / 16 : Nat) : Int) ∧ i2 = ((c'.toNat % 16 : Nat) : Int) ∧ (sI s).drop (k + 3) = quoteL t' ++ [] := by
            intro t ht
            rcases qcases ht with ⟨rfl, q1⟩ | ⟨c', t', rfl, p, q1, q2, q3⟩ | ⟨c', t', rfl, q1, q2, q3, q4, q5⟩
            · have e := congrArg List.length q1
              rw [List.length_drop, sI_len] at e
              simp at e; omega
            · have := p.2.2.2; omega
            · have hb := byte_lt c'
              exact ⟨c', t', rfl, a3 _ (by omega) q3, b3 _ (by omega) q4, q5⟩
          by_cases n1 : i1 < 0
          · rw [decide_eq_true n1, cond_true]
            refine ⟨_, rfl, Nat.zero_le _, fun t ht => ?_⟩
            obtain ⟨c', t', rfl, x1, x2, q5⟩ := nocase t ht
            omega
          · rw [decide_eq_false n1, cond_false]
            by_cases n2 : i2 < 0
            · rw [decide_eq_true n2, cond_true]
              refine ⟨_, rfl, Nat.zero_le _, fun t ht => ?_⟩
              obtain ⟨c', t', rfl, x1, x2, q5⟩ := nocase t ht
              omega
            · rw [decide_eq_false n2, cond_false]
              obtain ⟨b, e1, e2, e3⟩ := ih j (k + 3) (acc ++ [IntKind.wrap .u8 (IntKind.wrap .i64 (IntKind.wrap .i64 (16 * i1) + i2))]) (by omega) (by omega) (by omega) (by simp; omega)
              refine ⟨b, e1, e2, fun t ht => ?_⟩
              obtain ⟨c', t', rfl, x1, x2, q5⟩ := nocase t ht
              have hb := byte_lt c'
              rw [e3 t' q5, x1, x2, wrap64 (x := 16 * ((c'.toNat / 16 : Nat) : Int)) (by omega) (by omega), wrap64 (by omega) (by omega)]
              have y : (16 : Int) * ((c'.toNat / 16 : Nat) : Int) + ((c'.toNat % 16 : Nat) : Int) = ((16 * (c'.toNat / 16) + c'.toNat % 16 : Nat) : Int) := by omega
              rw [y, byteOf]; simp
        · rw [decide_eq_true (show (s.size : Int) ≤ ((k + 2 : Nat) : Int) by omega), cond_true]
          refine ⟨_, rfl, Nat.zero_le _, fun t ht => ?_⟩
          rcases qcases ht with ⟨rfl, q1⟩ | ⟨c', t', rfl, p, q1, q2, q3⟩ | ⟨c', t', rfl, q1, q2, q3, q4, q5⟩
          · have e := congrArg List.length q1
            rw [List.length_drop, sI_len] at e
            simp at e; omega
          · have := p.2.2.2; omega
          · omega
      · rw [decide_eq_false h37]
        simp only [Bool.not_false, cond_true]
        obtain ⟨b, e1, e2, e3⟩ := ih j (k + 1) (acc ++ [bt s (k : Int)]) (by omega) (by omega) (by omega) (by simp; omega)
        refine ⟨b, e1, e2, fun t ht => ?_⟩
        rcases qcases ht with ⟨rfl, q1⟩ | ⟨c', t', rfl, p, q1, q2, q3⟩ | ⟨c', t', rfl, q1, q2, q3, q4, q5⟩
        · have e := congrArg List.length q1
          rw [List.length_drop, sI_len] at e
          simp at e; omega
        · rw [e3 t' q3, q2]; simp
        · omega
    · exact hexit j k acc hks hk ha
noncomputable def chkI (n : Nat) (s : ByteArray) (c d : Int) (t : ByteArray) : Option (T_Val × (Bool × Unit)) := bif s.toList == E0.toList then some ((0, (0, E0)), (false, ())) else ((impl_ValText n c d t).bind fun r => bif !(r.toList == s.toList) then some ((0, (0, E0)), (false, ())) else some ((c, (d, t)), (true, ())))
theorem chkI_ok {n : Nat} (hv : ∀ x : T_Val, sm_Val 1048576 x → impl_ValText n x.1 x.2.1 x.2.2 = some (cValText x)) (s : ByteArray) (c d : Int) (t : ByteArray) (ht : t.size ≤ 1048576) :
    ∃ r, chkI n s c d t = some r ∧ tvSound s r ∧ ∀ w : T_Val, cValOk w.1 w.2.1 w.2.2 = true → cValText w = s → w = (c, (d, t)) → r = (w, (true, ())) := by
  unfold chkI
  rw [text_eq]
  by_cases c1 : s = E0
  · rw [decide_eq_true c1, cond_true]
    exact ⟨_, rfl, Or.inl rfl, fun w hw h _ => absurd c1 (valText_ne hw h)⟩
  · rw [decide_eq_false c1, cond_false]
    have e := hv (c, (d, t)) ht
    simp only at e
    rw [e, Option.bind_some]
    refine ⟨_, str_check _ _ _ rfl, tvRes_sound c1, fun w hw h he => ?_⟩
    rw [← he]; unfold tvRes; rw [if_pos h]
theorem extract_sI (s : ByteArray) (b : Nat) : sI (s.extract 1 b) = ((sI s).drop 1).take (b - 1) := by
  unfold sI
  rw [ByteArray.data_extract, Array.toList_extract]
  simp [List.extract]
theorem quote_last (w : ByteArray) : 1 < (cQuote w).size ∧ bt (cQuote w) (0 : Int) = 39 ∧ bt (cQuote w) (((cQuote w).size - 1 : Nat) : Int) = 39 ∧ sI ((cQuote w).extract 1 ((cQuote w).size - 1)) = quoteL w.data.toList := by
  have q := quote_sI w
  have e : (cQuote w).size = (quoteL w.data.toList).length + 2 := by unfold cQuote; rw [nums_size]; simp
  have h1 : (sI (cQuote w)).drop ((quoteL w.data.toList).length + 1) = 39 :: [] := by
    rw [q]; simp
  have h2 := sI_drop h1
  refine ⟨by omega, (first_sI q).2, ?_, ?_⟩
  · rw [e]; exact h2.2.1
  · rw [extract_sI, q, e]
    simp
theorem impl_quoted_ok : EV fun n => ∀ s : ByteArray, s.size ≤ 1048576 → ∃ r, impl_quoted n s = some r ∧ r.1.size ≤ s.size ∧ ∀ w : ByteArray, sI s = quoteL w.data.toList → r = (w, (true, ())) := (impl_figure_ok.and (EV.gt 1048577)).up fun n ⟨h3, hn⟩ s hs => by
  obtain ⟨r, a1, a2, a3⟩ := impl_quoted_loop n h3 s hs s.size n 0 [] (by omega) (by omega) (by omega) (by simp)
  refine ⟨r, a1, a2, fun w hw => ?_⟩
  have := a3 w.data.toList (by rw [List.append_nil, ← hw]; rfl)
  rw [this, List.nil_append, bytes_eq]
noncomputable def implNum (n : Nat) (s : ByteArray) : Option (T_Val × (Bool × Unit)) := (impl_TextNum n s).bind fun r => chkI n s 2 r.1 E0
noncomputable def implTail (n : Nat) (s : ByteArray) : Option (T_Val × (Bool × Unit)) :=
  bif decide ((1 : Int) < (s.size : Int)) then (bif inR (0 : Int) s.size then (bif bt s (0 : Int) == (39 : Int) then
    (bif inR (IntKind.wrap .i64 ((s.size : Int) - 1)) s.size then (bif bt s (IntKind.wrap .i64 ((s.size : Int) - 1)) == (39 : Int) then
      (bif decide (0 ≤ (1 : Int) ∧ (1 : Int) ≤ IntKind.wrap .i64 ((s.size : Int) - 1) ∧ IntKind.wrap .i64 ((s.size : Int) - 1) ≤ (s.size : Int)) then
        ((impl_quoted n (s.extract (1 : Int).toNat (IntKind.wrap .i64 ((s.size : Int) - 1)).toNat)).bind fun r => bif !r.2.1 then some ((0, (0, E0)), (false, ())) else chkI n s 3 0 r.1) else none) else implNum n s) else none) else implNum n s) else none) else implNum n s
theorem impl_tail_ok : EV fun n => ∀ s : ByteArray, s.size ≤ 1048576 → ∃ r, implTail n s = some r ∧ tvSound s r ∧ (∀ a, (-1099511627775 ≤ a ∧ a ≤ 1099511627775) → s = cNumText a → r = ((2, (a, E0)), (true, ()))) ∧ ∀ w : ByteArray, w.size ≤ 30 → s = cQuote w → r = ((3, (0, w)), (true, ())) := (impl_TextNum_ok.and (impl_ValText_ok.and impl_quoted_ok)).mono fun n ⟨h1, h2, h3⟩ s hs => by
  have z0 : E0.size ≤ 1048576 := by decide
  have num : ∀ (hq : ∀ w : ByteArray, w.size ≤ 30 → s ≠ cQuote w), ∃ r, implNum n s = some r ∧ tvSound s r ∧ (∀ a, (-1099511627775 ≤ a ∧ a ≤ 1099511627775) → s = cNumText a → r = ((2, (a, E0)), (true, ()))) ∧ ∀ w : ByteArray, w.size ≤ 30 → s = cQuote w → r = ((3, (0, w)), (true, ())) := by
    intro hq
    unfold implNum
    rw [h1 s hs, Option.bind_some]
    obtain ⟨r, a1, a2, a3⟩ := chkI_ok h2 s 2 (cTextNum s).1 E0 z0
    refine ⟨r, a1, a2, fun a ha he => ?_, fun w hw he => absurd he (hq w hw)⟩
    have ok : cValOk 2 a E0 = true := by simp [cValOk, ha]
    have tx : cValText (2, (a, E0)) = s := by unfold cValText; simp only [ok]; rw [he]; rfl
    refine a3 (2, (a, E0)) ok tx ?_
    rw [he, textNum_num ha]
  unfold implTail
  by_cases c1 : 1 < s.size
  · rw [decide_eq_true (show (1 : Int) < (s.size : Int) by omega), cond_true, show inR (0 : Int) s.size = true from inR_true (k := 0) (by omega), cond_true, int_beq]
    by_cases c2 : bt s (0 : Int) = 39
    · rw [decide_eq_true c2, cond_true]
      have w : IntKind.wrap .i64 ((s.size : Int) - 1) = ((s.size - 1 : Nat) : Int) := by rw [wrap64 (by omega) (by omega)]; omega
      rw [w, inR_true (by omega), cond_true, int_beq]
      by_cases c3 : bt s ((s.size - 1 : Nat) : Int) = 39
      · rw [decide_eq_true c3, cond_true, decide_eq_true (by omega), cond_true, Int.toNat_natCast, show (1 : Int).toNat = 1 from rfl]
        have hx : (s.extract 1 (s.size - 1)).size ≤ 1048576 := by rw [ByteArray.size_extract]; omega
        obtain ⟨r, a1, a2, a3⟩ := h3 _ hx
        rw [a1, Option.bind_some]
        have nonum : ∀ a, (-1099511627775 ≤ a ∧ a ≤ 1099511627775) → s ≠ cNumText a := by
          intro a ha he
          have := (first_num ha).2
          rw [← he] at this; omega
        cases hr : r.2.1
        · rw [Bool.not_false, cond_true]
          refine ⟨_, rfl, Or.inl rfl, fun a ha he => absurd he (nonum a ha), fun w hw he => ?_⟩
          have q := (quote_last w).2.2.2
          rw [← he] at q
          have := a3 w q
          rw [this] at hr; cases hr
        · rw [Bool.not_true, cond_false]
          obtain ⟨y, b1, b2, b3⟩ := chkI_ok h2 s 3 0 r.1 (by omega)
          refine ⟨y, b1, b2, fun a ha he => absurd he (nonum a ha), fun w hw he => ?_⟩
          have q := (quote_last w).2.2.2
          rw [← he] at q
          have e := a3 w q
          have ok : cValOk 3 0 w = true := by simp [cValOk, hw]
          have tx : cValText (3, (0, w)) = s := by unfold cValText; simp only [ok]; rw [he]; rfl
          exact b3 (3, (0, w)) ok tx (by rw [e])
      · rw [decide_eq_false c3, cond_false]
        exact num fun w hw he => c3 (by have := (quote_last w).2.2.1; rw [← he] at this; exact this)
    · rw [decide_eq_false c2, cond_false]
      exact num fun w hw he => c2 (by have := (quote_last w).2.1; rw [← he] at this; exact this)
  · rw [decide_eq_false (show ¬ (1 : Int) < (s.size : Int) by omega), cond_false]
    exact num fun w hw he => c1 (by have := (quote_last w).1; rw [← he] at this; exact this)
theorem impl_TextVal_ok : EV fun n => ∀ s : ByteArray, s.size ≤ 1048576 → ∃ r, impl_TextVal n s = some r ∧ tvSound s r ∧ tvComplete s r := (impl_tail_ok.and impl_ValText_ok).up fun n ⟨h1, h2⟩ s hs => by
  have z0 : E0.size ≤ 1048576 := by decide
  have e0 : impl_TextVal (n + 1) s = (bif s.toList == txtNull.toList then chkI n s 0 0 E0 else bif s.toList == tTrue.toList then (bif s.toList == tTrue.toList then chkI n s 1 1 E0 else chkI n s 1 0 E0)
    else bif s.toList == tFalse.toList then (bif s.toList == tTrue.toList then chkI n s 1 1 E0 else chkI n s 1 0 E0) else implTail n s) := rfl
  rw [e0, text_eq, text_eq, text_eq]
  by_cases c1 : s = txtNull
  · rw [decide_eq_true c1, cond_true]
    obtain ⟨r, a1, a2, a3⟩ := chkI_ok h2 s 0 0 E0 z0
    refine ⟨r, a1, a2, fun w hw h => a3 w hw h ?_⟩
    rcases valText_cases hw h with ⟨e1, e2⟩ | ⟨e1, e2⟩ | ⟨e1, e2⟩ | ⟨e1, e2, e3⟩ | ⟨e1, e2, e3⟩
    · exact e1
    · rw [c1] at e2; exact absurd e2 (by decide)
    · rw [c1] at e2; exact absurd e2 (by decide)
    · have f := first_num e2
      rw [← e3, c1] at f; exact absurd f (by decide)
    · have f := (quote_last w.2.2).2.1
      rw [← e3, c1] at f; exact absurd f (by decide)
  · rw [decide_eq_false c1, cond_false]
    by_cases c2 : s = tTrue
    · rw [decide_eq_true c2, cond_true, cond_true]
      obtain ⟨r, a1, a2, a3⟩ := chkI_ok h2 s 1 1 E0 z0
      refine ⟨r, a1, a2, fun w hw h => a3 w hw h ?_⟩
      rcases valText_cases hw h with ⟨e1, e2⟩ | ⟨e1, e2⟩ | ⟨e1, e2⟩ | ⟨e1, e2, e3⟩ | ⟨e1, e2, e3⟩
      · exact absurd e2 c1
      · exact e1
      · rw [c2] at e2; exact absurd e2 (by decide)
      · have f := first_num e2
        rw [← e3, c2] at f; exact absurd f (by decide)
      · have f := (quote_last w.2.2).2.1
        rw [← e3, c2] at f; exact absurd f (by decide)
    · rw [decide_eq_false c2, cond_false]
      by_cases c3 : s = tFalse
      · rw [decide_eq_true c3, cond_true, cond_false]
        obtain ⟨r, a1, a2, a3⟩ := chkI_ok h2 s 1 0 E0 z0
        refine ⟨r, a1, a2, fun w hw h => a3 w hw h ?_⟩
        rcases valText_cases hw h with ⟨e1, e2⟩ | ⟨e1, e2⟩ | ⟨e1, e2⟩ | ⟨e1, e2, e3⟩ | ⟨e1, e2, e3⟩
        · exact absurd e2 c1
        · exact absurd e2 c2
        · exact e1
        · have f := first_num e2
          rw [← e3, c3] at f; exact absurd f (by decide)
        · have f := (quote_last w.2.2).2.1
          rw [← e3, c3] at f; exact absurd f (by decide)
      · rw [decide_eq_false c3, cond_false]
        obtain ⟨r, a1, a2, a3, a4⟩ := h1 s hs
        refine ⟨r, a1, a2, fun w hw h => ?_⟩
        rcases valText_cases hw h with ⟨e1, e2⟩ | ⟨e1, e2⟩ | ⟨e1, e2⟩ | ⟨e1, e2, e3⟩ | ⟨e1, e2, e3⟩
        · exact absurd e2 c1
        · exact absurd e2 c2
        · exact absurd e2 c3
        · rw [e1]; exact a3 _ e2 e3
        · rw [e1]; exact a4 _ e2 e3
theorem sound_sm {s : ByteArray} {r : T_Val × (Bool × Unit)} (h : tvSound s r) : sm_Val 1048576 r.1 := by
  have z0 : E0.size ≤ 1048576 := by decide
  rcases h with h | ⟨v, a, b, c⟩
  · rw [h]; exact z0
  · rw [c]
    show v.2.2.size ≤ 1048576
    rcases valText_cases a b with ⟨e, _⟩ | ⟨e, _⟩ | ⟨e, _⟩ | ⟨e, _⟩ | ⟨_, e, _⟩
    · rw [e]; exact z0
    · rw [e]; exact z0
    · rw [e]; exact z0
    · rw [e]; exact z0
    · omega
theorem noDdl_sm : sm_Ddl 1048576 noDdl := ⟨Nat.zero_le _, ⟨Nat.zero_le _, fun x hx => by cases hx⟩, ⟨Nat.zero_le _, fun x hx => by cases hx⟩, Nat.zero_le _, Nat.zero_le _⟩
def cutF (s : ByteArray) (c : Int) : List UInt8 → Nat → Nat → List ByteArray → List ByteArray
  | [], k, f, acc => acc ++ [s.extract f k]
  | b :: t, k, f, acc => if (b.toNat : Int) = c then cutF s c t (k + 1) (k + 1) (acc ++ [s.extract f k]) else cutF s c t (k + 1) f acc
def cCut (s : ByteArray) (c : Int) : List ByteArray := cutF s c s.data.toList 0 0 []
theorem spec_l05Parts_ok : EV fun n => ∀ (s : ByteArray) (c : Int), s.size ≤ 1048576 → spec_l05Parts n s c = some (cCut s c) := (EV.gt 1048577).up fun n hn s c hs => by
  have loop : ∀ (t : List UInt8) (j k f : Nat) (acc : List ByteArray), s.data.toList.drop k = t → k ≤ s.size → f ≤ k → t.length < j → acc.length ≤ k → spec_l05Parts_L1 n j s c (f : Int) (k : Int) acc = some (cutF s c t k f acc) := by
    intro t
    induction t with
    | nil =>
      intro j k f acc hd hk hf hj ha
      obtain ⟨j, rfl⟩ : ∃ i, j = i + 1 := ⟨j - 1, by simp at hj; omega⟩
      have : k = s.size := by
        rcases Nat.lt_or_ge k s.size with h' | h'
        · rw [List.drop_eq_getElem_cons (by rw [data_len]; exact h')] at hd; cases hd
        · omega
      subst this
      simp only [spec_l05Parts_L1, lt_cast, Nat.lt_irrefl, decide_false, cond_false, Int.toNat_natCast]
      rw [decide_eq_true (by omega), cond_true, room16 (by simp; omega)]; rfl
    | cons b t ih =>
      intro j k f acc hd hk hf hj ha
      obtain ⟨j, rfl⟩ : ∃ i, j = i + 1 := ⟨j - 1, by simp at hj; omega⟩
      obtain ⟨h2, h3⟩ := bt_drop hd
      have h4 := (drop_cons hd 0).2.2
      simp only [List.length_cons] at hj
      simp only [spec_l05Parts_L1, lt_cast, decide_eq_true h2, inR_true h2, cond_true, h3, int_beq, wrap_succ h2 (by omega), Int.toNat_natCast, cutF]
      by_cases e : (b.toNat : Int) = c
      · rw [decide_eq_true e, if_pos e, cond_true, decide_eq_true (by omega), cond_true, room16 (by simp; omega), cond_true]
        exact ih j (k + 1) (k + 1) _ h4 (by omega) (by omega) (by omega) (by simp; omega)
      · rw [decide_eq_false e, if_neg e, cond_false]
        exact ih j (k + 1) f acc h4 (by omega) (by omega) (by omega) (by omega)
  rw [spec_l05Parts]
  exact loop s.data.toList n 0 0 [] rfl (by omega) (by omega) (by rw [data_len]; omega) (by simp)
theorem impl_cut_ok : EV fun n => ∀ (s : ByteArray) (c : Int), s.size ≤ 1048576 → impl_cut n s c = some (cCut s c) := (EV.gt 1048577).up fun n hn s c hs => by
  have loop : ∀ (t : List UInt8) (j k f : Nat) (acc : List ByteArray), s.data.toList.drop k = t → k ≤ s.size → f ≤ k → t.length < j → acc.length ≤ k → impl_cut_L1 n j s c (f : Int) (k : Int) acc = some (cutF s c t k f acc) := by
    intro t
    induction t with
    | nil =>
      intro j k f acc hd hk hf hj ha
      obtain ⟨j, rfl⟩ : ∃ i, j = i + 1 := ⟨j - 1, by simp at hj; omega⟩
      have : k = s.size := by
        rcases Nat.lt_or_ge k s.size with h' | h'
        · rw [List.drop_eq_getElem_cons (by rw [data_len]; exact h')] at hd; cases hd
        · omega
      subst this
      simp only [impl_cut_L1, lt_cast, Nat.lt_irrefl, decide_false, cond_false, Int.toNat_natCast]
      rw [decide_eq_true (by omega), cond_true, room16 (by simp; omega)]; rfl
    | cons b t ih =>
      intro j k f acc hd hk hf hj ha
      obtain ⟨j, rfl⟩ : ∃ i, j = i + 1 := ⟨j - 1, by simp at hj; omega⟩
      obtain ⟨h2, h3⟩ := bt_drop hd
      have h4 := (drop_cons hd 0).2.2
      simp only [List.length_cons] at hj
      simp only [impl_cut_L1, lt_cast, decide_eq_true h2, inR_true h2, cond_true, h3, int_beq, wrap_succ h2 (by omega), Int.toNat_natCast, cutF]
      by_cases e : (b.toNat : Int) = c
      · rw [decide_eq_true e, if_pos e, cond_true, decide_eq_true (by omega), cond_true, room16 (by simp; omega), cond_true]
        exact ih j (k + 1) (k + 1) _ h4 (by omega) (by omega) (by omega) (by simp; omega)
      · rw [decide_eq_false e, if_neg e, cond_false]
        exact ih j (k + 1) f acc h4 (by omega) (by omega) (by omega) (by omega)
  rw [impl_cut]
  exact loop s.data.toList n 0 0 [] rfl (by omega) (by omega) (by rw [data_len]; omega) (by simp)
theorem spec_Words_ok : EV fun n => ∀ s : ByteArray, s.size ≤ 1048576 → spec_Words n s = some (cCut s 32) := spec_l05Parts_ok.up fun n h s hs => by simp only [spec_Words, h s 32 hs, Option.bind_some]
theorem impl_Words_ok : EV fun n => ∀ s : ByteArray, s.size ≤ 1048576 → impl_Words n s = some (cCut s 32) := impl_cut_ok.up fun n h s hs => by simp only [impl_Words, h s 32 hs, Option.bind_some]
theorem cutF_sm (s : ByteArray) (c : Int) : ∀ (t : List UInt8) (k f : Nat) (acc : List ByteArray), s.size ≤ 1048576 → (∀ x ∈ acc, x.size ≤ 1048577) → acc.length + t.length ≤ 1048576 → sm_StringS 1048577 (cutF s c t k f acc)
  | [], k, f, acc, hs, ha, hl => by
    refine ⟨by simp [cutF]; simp at hl; omega, fun x hx => ?_⟩
    rcases List.mem_append.mp hx with hx | hx
    · exact ha x hx
    · simp at hx; subst hx; simp only [ByteArray.size_extract]; omega
  | b :: t, k, f, acc, hs, ha, hl => by
    simp only [cutF]
    simp only [List.length_cons] at hl
    split
    · refine cutF_sm s c t _ _ _ hs (fun x hx => ?_) (by simp; omega)
      rcases List.mem_append.mp hx with hx | hx
      · exact ha x hx
      · simp at hx; subst hx; simp only [ByteArray.size_extract]; omega
    · exact cutF_sm s c t _ _ _ hs ha (by omega)
theorem cCut_sm {s : ByteArray} (c : Int) (hs : s.size ≤ 1048576) : sm_StringS 1048577 (cCut s c) := cutF_sm s c _ 0 0 [] hs (by simp) (by rw [data_len]; simpa using hs)
noncomputable def cTV (s : ByteArray) : T_Val × (Bool × Unit) := @dite _ (∃ r, tvSound s r ∧ tvComplete s r) (Classical.propDecidable _) (fun h => h.choose) fun _ => ((0, (0, E0)), (false, ()))
theorem cTV_eq {s : ByteArray} {r : T_Val × (Bool × Unit)} (h1 : tvSound s r) (h2 : tvComplete s r) : cTV s = r := by
  have h : ∃ r, tvSound s r ∧ tvComplete s r := ⟨r, h1, h2⟩
  unfold cTV
  rw [dif_pos h]
  exact tv_unique h.choose_spec.1 h.choose_spec.2 h1 h2
theorem spec_TextVal_c : EV fun n => ∀ s : ByteArray, s.size ≤ 1048576 → spec_TextVal n s = some (cTV s) := spec_TextVal_ok.mono fun n h s hs => by
  obtain ⟨r, e, h1, h2⟩ := h s hs
  rw [e, cTV_eq h1 h2]
theorem impl_TextVal_c : EV fun n => ∀ s : ByteArray, s.size ≤ 1048576 → impl_TextVal n s = some (cTV s) := impl_TextVal_ok.mono fun n h s hs => by
  obtain ⟨r, e, h1, h2⟩ := h s hs
  rw [e, cTV_eq h1 h2]
theorem cTV_sm : EV fun n => ∀ s : ByteArray, s.size ≤ 1048576 → sm_Val 1048576 (cTV s).1 := (spec_TextVal_ok).mono fun n h s hs => by
  obtain ⟨r, e, h1, h2⟩ := h s hs
  rw [cTV_eq h1 h2]; exact sound_sm h1
theorem EV.get {p : Nat → Prop} (h : EV p) : ∃ n, p n := by obtain ⟨N, h⟩ := h; exact ⟨N, h N (Nat.le_refl _)⟩
theorem cTV_small {s : ByteArray} (hs : s.size ≤ 1048576) : sm_Val 1048576 (cTV s).1 := by
  obtain ⟨n, h⟩ := cTV_sm.get; exact h s hs
def tys4 : List ByteArray := [(⟨#[]⟩ : ByteArray), (⟨#[98, 111, 111, 108]⟩ : ByteArray), (⟨#[105, 110, 116]⟩ : ByteArray), (⟨#[116, 101, 120, 116]⟩ : ByteArray)]
def wNot : ByteArray := ⟨#[110, 111, 116]⟩
def isEq (w : ByteArray) : Bool := decide (0 < w.size) && decide (bt w 0 = 61)
noncomputable def flagStep (w : ByteArray) (f : Bool × (Bool × T_Val)) : Bool × (Bool × T_Val) := if w = wNot then (true, f.2) else if isEq w = true then (f.1, (true, (cTV (w.extract 1 w.size)).1)) else f
noncomputable def flags (l : List ByteArray) : Bool × (Bool × T_Val) := l.foldl (fun f w => flagStep w f) (false, (false, (0, (0, E0))))
noncomputable def colW (ty : ByteArray → Int) (ws : List ByteArray) : T_Col := if ws.length < 2 then (E0, (0, (false, (false, (0, (0, E0)))))) else (ws.getD 0 E0, (ty (ws.getD 1 E0), flags (ws.drop 2)))
def tyS (w : ByteArray) : Int := if w = tys4.getD 3 E0 then 3 else if w = tys4.getD 2 E0 then 2 else if w = tys4.getD 1 E0 then 1 else 0
def tyI (w : ByteArray) : Int := idx (fun t => decide (w = t)) tys4
theorem runs_some {α S : Type} (g : α → S → S) : ∀ (l : List α) (s : S), runs (fun x s => some (g x s)) l s = some (l.foldl (fun s x => g x s) s)
  | [], s => rfl
  | x :: t, s => by simp only [runs, Option.bind_some, List.foldl_cons]; exact runs_some g t _
theorem isEq_cases (w : ByteArray) : (isEq w = true ∧ decide ((0 : Int) < (w.size : Int)) = true ∧ inR (0 : Int) w.size = true ∧ (bt w 0 == (61 : Int)) = true ∧ decide (0 ≤ (1 : Int) ∧ (1 : Int) ≤ ((w.size : Nat) : Int) ∧ ((w.size : Nat) : Int) ≤ (w.size : Int)) = true) ∨
    (isEq w = false ∧ decide ((0 : Int) < (w.size : Int)) = true ∧ inR (0 : Int) w.size = true ∧ (bt w 0 == (61 : Int)) = false) ∨ (isEq w = false ∧ decide ((0 : Int) < (w.size : Int)) = false) := by
  by_cases h : 0 < w.size
  · have e1 : decide ((0 : Int) < (w.size : Int)) = true := by simp; omega
    have e2 : inR (0 : Int) w.size = true := inR_true (k := 0) h
    have e3 : decide (0 ≤ (1 : Int) ∧ (1 : Int) ≤ ((w.size : Nat) : Int) ∧ ((w.size : Nat) : Int) ≤ (w.size : Int)) = true := by simp; omega
    by_cases hb : bt w 0 = 61
    · exact .inl ⟨by simp [isEq, h, hb], e1, e2, by simp [hb], e3⟩
    · exact .inr (.inl ⟨by simp [isEq, hb], e1, e2, by simp [hb]⟩)
  · exact .inr (.inr ⟨by simp [isEq, h], decide_eq_false (by omega)⟩)
theorem spec_l05ReadCol_ok : EV fun n => ∀ ws : List ByteArray, sm_StringS 1048577 ws → spec_l05ReadCol n ws = some (colW tyS ws) := (spec_TextVal_c.and ((EV.gt 1048578).and (EV.of (p := fun n => spec_l05Types (n + 1) = some tys4) fun n => rfl))).up fun n ⟨hT, hn, _⟩ ws hs => by
  have hl := hs.1
  have loop : ∀ (l : List ByteArray) (y1 : ByteArray) (y2 : Int) (y3 y4 : Bool) (y5 y6 : Int) (y7 nm : ByteArray) (ty : Int) (f : Bool × (Bool × T_Val)), l.length ≤ 1048577 → (∀ w ∈ l, w.size ≤ 1048577) →
      spec_l05ReadCol_L2 n n l (l.length : Int) (0 : Int) y1 y2 y3 y4 y5 y6 y7 nm ty f.1 f.2.1 f.2.2.1 f.2.2.2.1 f.2.2.2.2 = some (nm, (ty, l.foldl (fun f w => flagStep w f) f)) := by
    intro l y1 y2 y3 y4 y5 y6 y7 nm ty f hl hb
    refine (run_loop l (fun w f => some (flagStep w f)) (fun j k (f : Bool × (Bool × T_Val)) => spec_l05ReadCol_L2 n j l (l.length : Int) (k : Int) y1 y2 y3 y4 y5 y6 y7 nm ty f.1 f.2.1 f.2.2.1 f.2.2.2.1 f.2.2.2.2) (fun f => some (nm, (ty, f))) none (fun _ => True) (fun _ _ _ _ _ _ => trivial)
      (fun j f _ => by simp only [spec_l05ReadCol_L2, lt_cast, Nat.lt_irrefl, decide_false, cond_false]) (fun j k f hk _ => ?_) l n 0 f rfl (by omega) (by omega) trivial).trans (by rw [runs_some]; rfl)
    have hw := hb _ (List.getElem_mem hk)
    simp only [spec_l05ReadCol_L2, lt_cast, decide_eq_true hk, inR_true hk, Int.toNat_natCast, getD_at hk, cond_true, wrap_succ hk (by omega), text_eq]
    generalize l[k] = w at hw ⊢
    have hx : (w.extract 1 w.size).size ≤ 1048576 := by rw [ByteArray.size_extract]; omega
    by_cases h1 : w = wNot
    · subst h1
      have : decide (wNot = (⟨#[110, 111, 116]⟩ : ByteArray)) = true := decide_eq_true rfl
      simp [after, flagStep, this]
    · have : decide (w = (⟨#[110, 111, 116]⟩ : ByteArray)) = false := decide_eq_false h1
      rw [this]
      simp only [cond_false, after, flagStep, if_neg h1]
      rcases isEq_cases w with ⟨a, b, c, d, e⟩ | ⟨a, b, c, d⟩ | ⟨a, b⟩
      · rw [b, c, d, e, a]; simp only [cond_true, Int.toNat_natCast, show (1 : Int).toNat = 1 from rfl, hT _ hx, Option.bind_some, if_true]
      · rw [b, c, d, a]; simp
      · rw [b, a]; simp
  obtain ⟨m, rfl⟩ : ∃ m, n = m + 5 := ⟨n - 5, by omega⟩
  rw [spec_l05ReadCol]
  unfold colW
  by_cases h2 : ws.length < 2
  · have : decide ((ws.length : Int) < (2 : Int)) = true := by simp; omega
    simp only [this, cond_true, h2, if_true]
  · have e1 : decide ((ws.length : Int) < (2 : Int)) = false := by simp; omega
    have e2 : inR (0 : Int) ws.length = true := inR_true (k := 0) (by omega)
    have e3 : inR (1 : Int) ws.length = true := inR_true (k := 1) (by omega)
    have e4 : decide (0 ≤ (2 : Int) ∧ (2 : Int) ≤ ((ws.length : Nat) : Int) ∧ ((ws.length : Nat) : Int) ≤ (ws.length : Int)) = true := by simp; omega
    have e5 : spec_l05Types (m + 5) = some tys4 := rfl
    have hdrop : (∀ w ∈ ws.drop 2, w.size ≤ 1048577) := fun w hw => hs.2 w (List.mem_of_mem_drop hw)
    simp only [e1, e2, e5, cond_true, cond_false, Option.bind_some, if_neg h2]
    have g0 : ∀ (k : Nat), k < 4 → decide ((k : Int) < ((tys4.length : Nat) : Int)) = true := fun k hk => by simp [tys4]; omega
    have g1 : ∀ (k : Nat), k < 4 → inR (k : Int) tys4.length = true := fun k hk => inR_true hk
    have w1 : IntKind.wrap .i64 ((0 : Int) + (1 : Int)) = 1 := by decide
    have w2 : IntKind.wrap .i64 ((1 : Int) + (1 : Int)) = 2 := by decide
    have w3 : IntKind.wrap .i64 ((2 : Int) + (1 : Int)) = 3 := by decide
    have w4 : IntKind.wrap .i64 ((3 : Int) + (1 : Int)) = 4 := by decide
    have l2 : ∀ ty : Int, _ := fun ty => loop (ws.drop 2) E0 0 false false 0 0 E0 (ws.getD 0 E0) ty (false, (false, (0, (0, E0)))) (by simp; omega) hdrop
    have tk : (ws.take ((ws.length : Nat) : Int).toNat).drop (2 : Int).toNat = ws.drop 2 := by simp
    simp only [spec_l05ReadCol_L1, g0 0 (by decide), g1 0 (by decide), show decide ((0 : Int) < ((tys4.length : Nat) : Int)) = true from rfl, show decide ((1 : Int) < ((tys4.length : Nat) : Int)) = true from rfl, show decide ((2 : Int) < ((tys4.length : Nat) : Int)) = true from rfl, show decide ((3 : Int) < ((tys4.length : Nat) : Int)) = true from rfl,
      show decide ((4 : Int) < ((tys4.length : Nat) : Int)) = false from rfl, show inR (0 : Int) tys4.length = true from rfl, show inR (1 : Int) tys4.length = true from rfl, show inR (2 : Int) tys4.length = true from rfl, show inR (3 : Int) tys4.length = true from rfl, show decide ((0 : Int) < 0) = false from rfl, show decide ((0 : Int) < 1) = true from rfl, show decide ((0 : Int) < 2) = true from rfl, show decide ((0 : Int) < 3) = true from rfl,
      w1, w2, w3, w4, e3, e4, cond_true, cond_false, text_eq, tk]
    have l2' := fun ty : Int => l2 ty
    simp only [show ((0 : Nat) : Int) = 0 from rfl] at l2'
    have c1 : (tys4.getD (1 : Int).toNat (⟨#[]⟩ : ByteArray) = ws.getD (1 : Int).toNat (⟨#[]⟩ : ByteArray)) = (ws.getD 1 E0 = tys4.getD 1 E0) := propext ⟨fun h => h.symm, fun h => h.symm⟩
    have c2 : (tys4.getD (2 : Int).toNat (⟨#[]⟩ : ByteArray) = ws.getD (1 : Int).toNat (⟨#[]⟩ : ByteArray)) = (ws.getD 1 E0 = tys4.getD 2 E0) := propext ⟨fun h => h.symm, fun h => h.symm⟩
    have c3 : (tys4.getD (3 : Int).toNat (⟨#[]⟩ : ByteArray) = ws.getD (1 : Int).toNat (⟨#[]⟩ : ByteArray)) = (ws.getD 1 E0 = tys4.getD 3 E0) := propext ⟨fun h => h.symm, fun h => h.symm⟩
    simp only [c1, c2, c3]
    unfold tyS
    by_cases h3 : ws.getD 1 E0 = tys4.getD 3 E0 <;> by_cases h2 : ws.getD 1 E0 = tys4.getD 2 E0 <;> by_cases h1 : ws.getD 1 E0 = tys4.getD 1 E0 <;> simp only [h1, h2, h3, decide_true, decide_false, cond_true, cond_false, if_true, if_false] <;> exact l2' _

theorem impl_colOf_ok : EV fun n => ∀ ws : List ByteArray, sm_StringS 1048577 ws → impl_colOf n ws = some (colW tyI ws) := (impl_TextVal_c.and (EV.gt 1048578)).up fun n ⟨hT, hn⟩ ws hs => by
  have hl := hs.1
  have loop : ∀ (l : List ByteArray) (y1 : ByteArray) (y2 : Int) (y3 y4 : Bool) (y5 y6 : Int) (y7 nm : ByteArray) (ty : Int) (f : Bool × (Bool × T_Val)), l.length ≤ 1048577 → (∀ w ∈ l, w.size ≤ 1048577) →
      impl_colOf_L1 n n l (l.length : Int) (0 : Int) y1 y2 y3 y4 y5 y6 y7 nm ty f.1 f.2.1 f.2.2.1 f.2.2.2.1 f.2.2.2.2 = some (nm, (ty, l.foldl (fun f w => flagStep w f) f)) := by
    intro l y1 y2 y3 y4 y5 y6 y7 nm ty f hl hb
    refine (run_loop l (fun w f => some (flagStep w f)) (fun j k (f : Bool × (Bool × T_Val)) => impl_colOf_L1 n j l (l.length : Int) (k : Int) y1 y2 y3 y4 y5 y6 y7 nm ty f.1 f.2.1 f.2.2.1 f.2.2.2.1 f.2.2.2.2) (fun f => some (nm, (ty, f))) none (fun _ => True) (fun _ _ _ _ _ _ => trivial)
      (fun j f _ => by simp only [impl_colOf_L1, lt_cast, Nat.lt_irrefl, decide_false, cond_false]) (fun j k f hk _ => ?_) l n 0 f rfl (by omega) (by omega) trivial).trans (by rw [runs_some]; rfl)
    have hw := hb _ (List.getElem_mem hk)
    simp only [impl_colOf_L1, lt_cast, decide_eq_true hk, inR_true hk, Int.toNat_natCast, getD_at hk, cond_true, wrap_succ hk (by omega), text_eq]
    generalize l[k] = w at hw ⊢
    have hx : (w.extract 1 w.size).size ≤ 1048576 := by rw [ByteArray.size_extract]; omega
    by_cases h1 : w = wNot
    · subst h1
      have : decide (wNot = (⟨#[110, 111, 116]⟩ : ByteArray)) = true := decide_eq_true rfl
      have d1 : decide ((0 : Int) < (wNot.size : Int)) = true := by decide
      have d2 : inR (0 : Int) wNot.size = true := by decide
      have d3 : (bt wNot 0 == (61 : Int)) = false := by decide
      simp [after, flagStep, this, d1, d2, d3]
    · have : decide (w = (⟨#[110, 111, 116]⟩ : ByteArray)) = false := decide_eq_false h1
      rw [this]
      simp only [cond_false, after, flagStep, if_neg h1]
      rcases isEq_cases w with ⟨a, b, c, d, e⟩ | ⟨a, b, c, d⟩ | ⟨a, b⟩
      · rw [b, c, d, e, a]; simp only [cond_true, Int.toNat_natCast, show (1 : Int).toNat = 1 from rfl, hT _ hx, Option.bind_some, if_true]
      · rw [b, c, d, a]; simp
      · rw [b, a]; simp
  rw [impl_colOf]
  unfold colW
  by_cases h2 : ws.length < 2
  · have : decide ((ws.length : Int) < (2 : Int)) = true := by simp; omega
    simp only [this, cond_true, h2, if_true]
  · have e1 : decide ((ws.length : Int) < (2 : Int)) = false := by simp; omega
    have e2 : inR (0 : Int) ws.length = true := inR_true (k := 0) (by omega)
    have e3 : inR (1 : Int) ws.length = true := inR_true (k := 1) (by omega)
    have e4 : decide (0 ≤ (2 : Int) ∧ (2 : Int) ≤ ((ws.length : Nat) : Int) ∧ ((ws.length : Nat) : Int) ≤ (ws.length : Int)) = true := by simp; omega
    have hdrop : (∀ w ∈ ws.drop 2, w.size ≤ 1048577) := fun w hw => hs.2 w (List.mem_of_mem_drop hw)
    have tk : (ws.take ((ws.length : Nat) : Int).toNat).drop (2 : Int).toNat = ws.drop 2 := by simp
    have hi : slices_Index_string_string n tys4 (ws.getD (1 : Int).toNat (⟨#[]⟩ : ByteArray)) = some (tyI (ws.getD 1 E0)) := by
      obtain ⟨m, rfl⟩ : ∃ m, n = m + 1 := ⟨n - 1, by omega⟩
      rw [slices_Index_string_string]
      refine find_loop (fun t => decide (ws.getD 1 E0 = t)) tys4 (fun j k => slices_Index_string_string_L1 m j tys4 (ws.getD 1 E0) (tys4.length : Int) (k : Int)) (fun j => by simp only [slices_Index_string_string_L1, lt_cast, Nat.lt_irrefl, decide_false, cond_false]) (fun j k hk => ?_) tys4 m 0 rfl (by omega) (by simp [tys4]; omega)
      have hk4 : k < 4 := hk
      simp only [slices_Index_string_string_L1, lt_cast, decide_eq_true hk, inR_true hk, Int.toNat_natCast, getD_at hk, cond_true, wrap_succ hk (by simp [tys4]), text_eq]
      exact bif_step' _ _
    have l2 : ∀ ty : Int, _ := fun ty => loop (ws.drop 2) E0 0 false false 0 0 E0 (ws.getD 0 E0) ty (false, (false, (0, (0, E0)))) (by simp; omega) hdrop
    simp only [e1, e2, e3, e4, cond_true, cond_false, if_neg h2, tk, show ([(⟨#[]⟩ : ByteArray), (⟨#[98, 111, 111, 108]⟩ : ByteArray), (⟨#[105, 110, 116]⟩ : ByteArray), (⟨#[116, 101, 120, 116]⟩ : ByteArray)] : List ByteArray) = tys4 from rfl, hi, Option.bind_some]
    exact l2 _
theorem foldl_inv {α S : Type} (P : S → Prop) (f : S → α → S) : ∀ (l : List α) (s : S), (∀ x ∈ l, ∀ s, P s → P (f s x)) → P s → P (l.foldl f s)
  | [], s, _, h => h
  | x :: t, s, hf, h => foldl_inv P f t _ (fun y hy => hf y (List.mem_cons_of_mem _ hy)) (hf x (List.mem_cons_self ..) s h)
theorem flags_sm {l : List ByteArray} (h : ∀ w ∈ l, w.size ≤ 1048577) : sm_Val 1048576 (flags l).2.2 := by
  refine foldl_inv (fun f : Bool × (Bool × T_Val) => sm_Val 1048576 f.2.2) _ l _ (fun w hw f hf => ?_) (show sm_Val 1048576 (0, (0, E0)) from by unfold sm_Val; decide)
  unfold flagStep
  split
  · exact hf
  · split
    · exact cTV_small (by rw [ByteArray.size_extract]; have := h w hw; omega)
    · exact hf
theorem tyI_S (w : ByteArray) : tyI w = tyS w ∨ (¬ (1 ≤ tyI w ∧ tyI w ≤ 3) ∧ ¬ (1 ≤ tyS w ∧ tyS w ≤ 3)) := by
  unfold tyI tyS idx
  simp only [tys4, idxFrom, List.getD, decide_eq_true_eq]
  simp only [List.getElem?_cons_zero, List.getElem?_cons_succ, Option.getD_some]
  by_cases h0 : w = (⟨#[]⟩ : ByteArray)
  · subst h0; decide
  · by_cases h1 : w = (⟨#[98, 111, 111, 108]⟩ : ByteArray)
    · subst h1; decide
    · by_cases h2 : w = (⟨#[105, 110, 116]⟩ : ByteArray)
      · subst h2; decide
      · by_cases h3 : w = (⟨#[116, 101, 120, 116]⟩ : ByteArray)
        · subst h3; decide
        · simp [h0, h1, h2, h3]
theorem colW_either (ws : List ByteArray) : colW tyI ws = colW tyS ws ∨ (cColOk (colW tyI ws) = false ∧ cColOk (colW tyS ws) = false) := by
  unfold colW
  by_cases h : ws.length < 2
  · left; simp [h]
  · simp only [if_neg h]
    rcases tyI_S (ws.getD 1 E0) with e | ⟨e1, e2⟩
    · left; rw [e]
    · right
      constructor
      · simp only [cColOk, decide_eq_false e1, Bool.and_false, Bool.false_and]
      · simp only [cColOk, decide_eq_false e2, Bool.and_false, Bool.false_and]
theorem cutF_le (s : ByteArray) (c : Int) : ∀ (t : List UInt8) (k f : Nat) (acc : List ByteArray), (∀ x ∈ acc, x.size ≤ s.size) → ∀ x ∈ cutF s c t k f acc, x.size ≤ s.size
  | [], k, f, acc, ha, x, hx => by
    rcases List.mem_append.mp hx with hx | hx
    · exact ha x hx
    · simp at hx; subst hx; simp only [ByteArray.size_extract]; omega
  | b :: t, k, f, acc, ha, x, hx => by
    simp only [cutF] at hx
    split at hx
    · refine cutF_le s c t _ _ _ (fun x hx => ?_) x hx
      rcases List.mem_append.mp hx with hx | hx
      · exact ha x hx
      · simp at hx; subst hx; simp only [ByteArray.size_extract]; omega
    · exact cutF_le s c t _ _ _ ha x hx
theorem cCut_le {s : ByteArray} {c : Int} {w : ByteArray} (h : w ∈ cCut s c) : w.size ≤ s.size := cutF_le s c _ 0 0 [] (by simp) w h
def wsOk (ws : List ByteArray) : Prop := ws.length ≤ 1048577 ∧ ∀ w ∈ ws, w.size ≤ 1048576
theorem wsOk.sm {ws : List ByteArray} (h : wsOk ws) : sm_StringS 1048577 ws := ⟨h.1, fun w hw => by have := h.2 w hw; omega⟩
theorem wsOk_cut {s : ByteArray} (c : Int) (hs : s.size ≤ 1048576) : wsOk (cCut s c) := ⟨(cCut_sm c hs).1, fun w hw => by have := cCut_le hw; omega⟩
theorem wsOk.get {ws : List ByteArray} (h : wsOk ws) (i : Nat) : (ws.getD i E0).size ≤ 1048576 := by
  by_cases hi : i < ws.length
  · rw [getD_at hi]; exact h.2 _ (List.getElem_mem hi)
  · have : ws.getD i E0 = E0 := by simp [List.getD, List.getElem?_eq_none (show ws.length ≤ i by omega)]
    rw [this]; decide
theorem wsOk.drop {ws : List ByteArray} (h : wsOk ws) (i : Nat) : wsOk (ws.drop i) := ⟨by have := h.1; simp; omega, fun w hw => h.2 w (List.mem_of_mem_drop hw)⟩
theorem wsOk.take {ws : List ByteArray} (h : wsOk ws) (i : Nat) : wsOk (ws.take i) := ⟨by have := h.1; simp; omega, fun w hw => h.2 w (List.mem_of_mem_take hw)⟩
theorem colW_sm {ty : ByteArray → Int} {ws : List ByteArray} (h : wsOk ws) : sm_Col 1048576 (colW ty ws) := by
  unfold colW
  split
  · unfold sm_Col sm_Val; decide
  · exact ⟨h.get 0, flags_sm (h.drop 2).sm.2⟩
def wOpen : ByteArray := ⟨#[40]⟩
def wClose : ByteArray := ⟨#[41]⟩
def pc (x : ByteArray) : Bool := decide (x = wClose)
noncomputable def crt (ty : ByteArray → Int) : Nat → List ByteArray → T_ColS → T_ColS × List ByteArray
  | 0, _, cols => (cols, [])
  | f + 1, ws, cols => if ws.length = 0 then (cols, []) else if ws.getD 0 E0 = wOpen then (if idx pc ws < 0 then (cols, []) else crt ty f (ws.drop ((idx pc ws).toNat + 1)) (cols ++ [colW ty ((ws.take (idx pc ws).toNat).drop 1)])) else (cols, ws.drop 1)
theorem idx_shift {α : Type} (p : α → Bool) : ∀ (t : List α) (k : Nat), (idxFrom p t k = -1 ∧ idxFrom p t 0 = -1) ∨ ∃ m : Nat, m < t.length ∧ idxFrom p t 0 = (m : Int) ∧ idxFrom p t k = ((k + m : Nat) : Int)
  | [], k => .inl ⟨rfl, rfl⟩
  | x :: t, k => by
    simp only [idxFrom]
    by_cases h : p x = true
    · right; exact ⟨0, by simp, by simp [h], by simp [h]⟩
    · simp only [if_neg h]
      rcases idx_shift p t (k + 1) with ⟨a, _⟩ | ⟨m, a, b, c⟩
      · left
        refine ⟨a, ?_⟩
        rcases idx_shift p t 1 with ⟨d, _⟩ | ⟨m, d, e, _⟩
        · exact d
        · rcases idx_shift p t (k + 1) with ⟨_, g⟩ | ⟨m', _, _, g⟩
          · rw [e] at g; omega
          · rw [a] at g; omega
      · right
        refine ⟨m + 1, by simp; omega, ?_, by rw [c]; omega⟩
        rcases idx_shift p t 1 with ⟨_, d⟩ | ⟨m', _, d, e⟩
        · rw [b] at d; omega
        · rw [b] at d; rw [e]; omega
theorem idx_cons_ne {α : Type} {p : α → Bool} {x : α} {t : List α} (h : p x = false) : idx p (x :: t) = idxFrom p t 1 := by simp [idx, idxFrom, h]
theorem room64 {n : Nat} (h : n ≤ 2097154) : room n 64 = true := by simp [room]; omega
theorem room16w {n : Nat} (h : n ≤ 2097154) : room n 16 = true := by simp [room]; omega
theorem room32 {n : Nat} (h : n ≤ 2097154) : room n 32 = true := by simp [room]; omega
theorem crt_fuel (ty : ByteArray → Int) : ∀ (f g : Nat) (ws : List ByteArray) (cols : T_ColS), ws.length < f → ws.length < g → crt ty f ws cols = crt ty g ws cols := by
  intro f
  induction f with
  | zero => intro g ws cols h; omega
  | succ f ih =>
    intro g ws cols h1 h2
    obtain ⟨g, rfl⟩ : ∃ g', g = g' + 1 := ⟨g - 1, by omega⟩
    simp only [crt]
    split
    · rfl
    · split
      · split
        · rfl
        · exact ih g _ _ (by simp; omega) (by simp; omega)
      · rfl
noncomputable def crtW (ty : ByteArray → Int) (ws : List ByteArray) : T_ColS × List ByteArray := crt ty (ws.length + 1) ws []
theorem spec_l05Create_ok : EV fun n => ∀ (k : Int) (tb nm to : ByteArray) (ws : List ByteArray), wsOk ws → spec_l05Create_o_o n k tb [] [] nm to ws = some (k, (tb, ((crtW tyS ws).1, ((crtW tyS ws).2, (nm, to))))) := (spec_l05ReadCol_ok.and (EV.gt 1048580)).up fun n ⟨hC, hn⟩ k tb nm to ws hw => by
  have hl := hw.1
  have scan : ∀ (k0 : List ByteArray → Int → Int → ByteArray → ByteArray → ByteArray → T_ColS → List ByteArray → Int → ByteArray → ByteArray → ByteArray → T_ColS → List ByteArray → Option (Int × (ByteArray × (T_ColS × ((List ByteArray) × (ByteArray × ByteArray)))))) (fr : Nat) (cols : T_ColS) (ks : List ByteArray) (z1 : Int) (z2 z3 z4 : ByteArray) (z5 : T_ColS) (z6 : List ByteArray), cols.length ≤ 1048577 →
      ∀ (t : List ByteArray) (j i : Nat), ws.drop i = t → i ≤ ws.length → (fr ≤ i ∨ (fr = i + 1 ∧ ws.getD i E0 ≠ wClose)) → t.length < j →
      spec_l05Create_o_o_L2 n k0 j ws (i : Int) (fr : Int) k tb nm to cols ks z1 z2 z3 z4 z5 z6 = if idxFrom pc t i < 0 then k0 ws ((ws.length + 1 : Nat) : Int) k tb nm to cols ks z1 z2 z3 z4 z5 z6 else k0 ws (idxFrom pc t i + 1) k tb nm to (cols ++ [colW tyS ((ws.take (idxFrom pc t i).toNat).drop fr)]) ks z1 z2 z3 z4 z5 z6 := by
    intro k0 fr cols ks z1 z2 z3 z4 z5 z6 hcl t
    induction t with
    | nil =>
      intro j i hd hi hf hj
      obtain ⟨j, rfl⟩ : ∃ j', j = j' + 1 := ⟨j - 1, by omega⟩
      have hi' : i = ws.length := by
        have := congrArg List.length hd
        simp at this; omega
      subst hi'
      simp only [spec_l05Create_o_o_L2, lt_cast, Nat.lt_irrefl, decide_false, cond_false, wrap_succ (Nat.lt_succ_self ws.length) (by omega)]
      rfl
    | cons w t ih =>
      intro j i hd hi hf hj
      obtain ⟨j, rfl⟩ : ∃ j', j = j' + 1 := ⟨j - 1, by omega⟩
      obtain ⟨h2, h3, h4⟩ := drop_cons hd E0
      have hx : ws[i] = w := by simpa [List.getD, h2] using h3
      simp only [spec_l05Create_o_o_L2, lt_cast, decide_eq_true h2, inR_true h2, Int.toNat_natCast, getD_at h2, hx, cond_true, wrap_succ h2 (by omega), text_eq, show (⟨#[41]⟩ : ByteArray) = wClose from rfl]
      by_cases hc : w = wClose
      · have hp : pc w = true := decide_eq_true hc
        have hf : fr ≤ i := hf.resolve_right fun h => h.2 (by rw [getD_at h2, hx, hc])
        have e1 : decide (0 ≤ (fr : Int) ∧ (fr : Int) ≤ (i : Int) ∧ (i : Int) ≤ (ws.length : Int)) = true := decide_eq_true ⟨by omega, by omega, by omega⟩
        have hs' : wsOk ((ws.take i).drop fr) := (hw.take i).drop fr
        have e2 : idxFrom pc (w :: t) i = (i : Int) := by simp [idxFrom, hp]
        rw [e2]
        have e3 : ((cols.length + [(colW tyS ((ws.take i).drop fr))].length : Nat)) ≤ 2097154 := by simp; omega
        simp only [hc, decide_true, Bool.not_true, cond_false, e1, cond_true, hC _ hs'.sm, Option.bind_some, if_neg (show ¬ ((i : Int) < 0) by omega), Int.toNat_natCast, room64 e3]
        rfl
      · have hp : pc w = false := decide_eq_false hc
        have e2 : idxFrom pc (w :: t) i = idxFrom pc t (i + 1) := by simp [idxFrom, hp]
        rw [e2]
        simp only [hc, decide_false, Bool.not_false, cond_true]
        exact ih j (i + 1) h4 (by omega) (by omega) (by simp at hj; omega)
  have loop : ∀ (j i : Nat) (cols : T_ColS) (z1 : Int) (z2 z3 z4 : ByteArray) (z5 : T_ColS) (z6 : List ByteArray), ws.length + 1 < i + j → i ≤ ws.length + 1 → cols.length ≤ i →
      spec_l05Create_o_o_L1 n j ws (i : Int) k tb nm to cols [] z1 z2 z3 z4 z5 z6 = some (k, (tb, ((crt tyS j (ws.drop i) cols).1, ((crt tyS j (ws.drop i) cols).2, (nm, to))))) := by
    intro j
    induction j with
    | zero => intro i cols z1 z2 z3 z4 z5 z6 h1 h2 h3; omega
    | succ j ih =>
      intro i cols z1 z2 z3 z4 z5 z6 h1 h2 h3
      rw [spec_l05Create_o_o_L1]
      rcases Nat.lt_or_ge i ws.length with hi | hi
      · have hd : ws.drop i = ws[i] :: ws.drop (i + 1) := List.drop_eq_getElem_cons hi
        simp only [lt_cast, decide_eq_true hi, inR_true hi, Int.toNat_natCast, getD_at hi, cond_true, wrap_succ hi (by omega), text_eq, show (⟨#[40]⟩ : ByteArray) = wOpen from rfl]
        have hc : crt tyS (j + 1) (ws.drop i) cols = if ws[i] = wOpen then (if idx pc (ws.drop i) < 0 then (cols, []) else crt tyS j ((ws.drop i).drop ((idx pc (ws.drop i)).toNat + 1)) (cols ++ [colW tyS (((ws.drop i).take (idx pc (ws.drop i)).toNat).drop 1)])) else (cols, (ws.drop i).drop 1) := by
          simp only [crt]
          rw [if_neg (by simp; omega)]
          simp only [hd, List.getD_cons_zero]
        rw [hc]
        by_cases ho : ws[i] = wOpen
        · have hp : pc ws[i] = false := by rw [ho]; decide
          have hx : idx pc (ws.drop i) = idxFrom pc (ws.drop (i + 1)) 1 := by rw [hd]; exact idx_cons_ne hp
          rw [if_pos ho, hx]
          simp only [ho, decide_true, cond_true]
          rw [scan _ (i + 1) cols [] _ _ _ _ _ _ (by omega) (ws.drop i) n i rfl (by omega) (.inr ⟨rfl, by rw [getD_at hi, ho]; decide⟩) (by simp; omega), hd, show idxFrom pc (ws[i] :: ws.drop (i + 1)) i = idxFrom pc (ws.drop (i + 1)) (i + 1) by simp [idxFrom, hp], ← hd]
          rcases idx_shift pc (ws.drop (i + 1)) (i + 1) with ⟨a, b⟩ | ⟨m, a, b, c⟩
          · have d : idxFrom pc (ws.drop (i + 1)) 1 = -1 := by
              rcases idx_shift pc (ws.drop (i + 1)) 1 with ⟨d, _⟩ | ⟨m, _, d, _⟩
              · exact d
              · rw [b] at d; omega
            rw [a, d, if_pos (by decide), if_pos (by decide)]
            rw [ih (ws.length + 1) cols _ _ _ _ _ _ (by omega) (by omega) (by omega), List.drop_eq_nil_of_le (by omega)]
            cases j with
            | zero => omega
            | succ j => simp [crt]
          · have d : idxFrom pc (ws.drop (i + 1)) 1 = ((1 + m : Nat) : Int) := by
              rcases idx_shift pc (ws.drop (i + 1)) 1 with ⟨_, d⟩ | ⟨m', _, d, e⟩
              · rw [b] at d; omega
              · rw [b] at d; rw [e]; omega
            simp only [List.length_drop] at a
            rw [c, d, if_neg (by omega), if_neg (by omega)]
            simp only [Int.toNat_natCast]
            have e1 : (ws.take (i + 1 + m)).drop i = ((ws.drop i).take (1 + m)) := by rw [List.drop_take]; congr 1; omega
            have e2 : (ws.take (i + 1 + m)).drop (i + 1) = ((ws.drop i).take (1 + m)).drop 1 := by rw [← e1, List.drop_drop]
            have e3 : (((i + 1 + m : Nat) : Int) + 1) = ((i + 1 + m + 1 : Nat) : Int) := by omega
            have e4 : (ws.drop i).drop (1 + m + 1) = ws.drop (i + 1 + m + 1) := by rw [List.drop_drop]; congr 1; omega
            rw [e3, e4, ← e2]
            exact ih (i + 1 + m + 1) _ _ _ _ _ _ _ (by omega) (by omega) (by simp; omega)
        · rw [if_neg ho]
          simp only [ho, decide_false, cond_false, List.drop_drop]
          by_cases h5 : i + 1 < ws.length
          · have e1 : decide (i + 1 < ws.length) = true := decide_eq_true h5
            have e2 : decide (0 ≤ ((i + 1 : Nat) : Int) ∧ ((i + 1 : Nat) : Int) ≤ ((ws.length : Nat) : Int) ∧ ((ws.length : Nat) : Int) ≤ (ws.length : Int)) = true := decide_eq_true ⟨by omega, by omega, by omega⟩
            have e3 : ((([] : List ByteArray).length + (ws.drop (i + 1)).length : Nat)) ≤ 2097154 := by simp; omega
            simp only [e1, e2, cond_true, List.take_length, room16w e3, List.nil_append]
          · have e1 : decide (i + 1 < ws.length) = false := decide_eq_false h5
            simp only [e1, cond_false]
            rw [List.drop_eq_nil_of_le (by omega)]
      · have e0 : decide ((i : Int) < (ws.length : Int)) = false := decide_eq_false (by omega)
        have ew : IntKind.wrap .i64 ((i : Int) + (1 : Int)) = ((i + 1 : Nat) : Int) := wrap_succ (Nat.lt_succ_self i) (by omega)
        have e1 : decide (((i + 1 : Nat) : Int) < (ws.length : Int)) = false := decide_eq_false (by omega)
        simp only [e0, ew, e1, cond_false]
        rw [List.drop_eq_nil_of_le hi]
        simp [crt]
  rw [spec_l05Create_o_o]
  have := loop n 0 [] 0 E0 E0 E0 [] [] (by omega) (by omega) (by simp)
  simp only [crtW]
  rw [← crt_fuel tyS n (ws.length + 1) ws [] (by omega) (by omega)]
  exact this

theorem impl_createOf_ok : EV fun n => ∀ (k : Int) (tb nm to : ByteArray) (ws : List ByteArray), wsOk ws → impl_createOf n k tb [] [] nm to ws = some ((k, (tb, ((crtW tyI ws).1, ((crtW tyI ws).2, (nm, to))))), ()) := (impl_colOf_ok.and (impl_copyTexts_ok.and (EV.gt 1048580))).up fun n ⟨hC, hT, hn⟩ k tb nm to ws hw => by
  have hI : ∀ l : List ByteArray, l.length ≤ 1048577 → slices_Index_string_string n l wClose = some (idx pc l) := by
    intro l hl
    obtain ⟨m, rfl⟩ : ∃ m, n = m + 1 := ⟨n - 1, by omega⟩
    rw [slices_Index_string_string]
    refine find_loop pc l (fun j k => slices_Index_string_string_L1 m j l wClose (l.length : Int) (k : Int)) (fun j => by simp only [slices_Index_string_string_L1, lt_cast, Nat.lt_irrefl, decide_false, cond_false]) (fun j k hk => ?_) l m 0 rfl (by omega) (by omega)
    simp only [slices_Index_string_string_L1, lt_cast, decide_eq_true hk, inR_true hk, Int.toNat_natCast, getD_at hk, cond_true, wrap_succ hk (by omega), text_eq, pc]
    rw [bif_step']
    by_cases h : l[k] = wClose
    · simp [h]
    · simp [h, show ¬ (wClose = l[k]) from fun e => h e.symm]
  have loop : ∀ (j : Nat) (ws : List ByteArray) (cols : T_ColS), wsOk ws → ws.length < j → cols.length + ws.length ≤ 1048577 →
      impl_createOf_L1 n j ws k tb nm to cols [] = some ((k, (tb, ((crt tyI j ws cols).1, ((crt tyI j ws cols).2, (nm, to))))), ()) := by
    intro j
    induction j with
    | zero => intro ws cols _ h; omega
    | succ j ih =>
      intro ws cols hw h1 h2
      rw [impl_createOf_L1]
      simp only [crt]
      by_cases h0 : ws.length = 0
      · have e0 : decide ((0 : Int) < (ws.length : Int)) = false := decide_eq_false (by omega)
        simp only [h0, show decide ((0 : Int) < ((0 : Nat) : Int)) = false from rfl, cond_false, if_true]
      · have e0 : decide ((0 : Int) < (ws.length : Int)) = true := decide_eq_true (by omega)
        have e1 : inR (0 : Int) ws.length = true := inR_true (k := 0) (by omega)
        simp only [e0, e1, cond_true, if_neg h0, text_eq, show (⟨#[40]⟩ : ByteArray) = wOpen from rfl, show (⟨#[41]⟩ : ByteArray) = wClose from rfl, show (⟨#[]⟩ : ByteArray) = E0 from rfl, show (0 : Int).toNat = 0 from rfl, show (1 : Int).toNat = 1 from rfl]
        by_cases ho : ws.getD 0 E0 = wOpen
        · simp only [ho, decide_true, cond_true, if_true, hI ws (by omega), Option.bind_some]
          obtain ⟨g1, g2⟩ := idx_lt pc ws
          by_cases hc : idx pc ws < 0
          · simp only [hc, decide_true, cond_true, if_true]
          · have hpos : 1 ≤ idx pc ws := by
              rcases Nat.eq_zero_or_pos (idx pc ws).toNat with z | z
              · exfalso
                cases ws with
                | nil => simp at h0
                | cons w t =>
                  have hp : pc w = false := by
                    simp only [List.getD_cons_zero] at ho
                    rw [ho]; decide
                  rw [idx_cons_ne hp] at hc z
                  rcases idx_shift pc t 1 with ⟨d, _⟩ | ⟨m, _, _, d⟩
                  · rw [d] at hc; omega
                  · rw [d] at z; omega
              · omega
            obtain ⟨e, he⟩ := Int.eq_ofNat_of_zero_le (show 0 ≤ idx pc ws by omega)
            rw [he] at hc hpos g2 ⊢
            have q1 : decide ((e : Int) < 0) = false := decide_eq_false (by omega)
            have q2 : decide (0 ≤ (1 : Int) ∧ (1 : Int) ≤ (e : Int) ∧ (e : Int) ≤ (ws.length : Int)) = true := decide_eq_true ⟨by omega, by omega, by omega⟩
            have q3 : IntKind.wrap .i64 ((e : Int) + (1 : Int)) = ((e + 1 : Nat) : Int) := wrap_succ (Nat.lt_succ_self e) (by omega)
            have q4 : decide (0 ≤ ((e + 1 : Nat) : Int) ∧ ((e + 1 : Nat) : Int) ≤ ((ws.length : Nat) : Int) ∧ ((ws.length : Nat) : Int) ≤ (ws.length : Int)) = true := decide_eq_true ⟨by omega, by omega, by omega⟩
            have q5 : ((cols.length + [colW tyI ((ws.take e).drop 1)].length : Nat)) ≤ 2097154 := by simp; omega
            have hs' : wsOk ((ws.take e).drop 1) := (hw.take e).drop 1
            simp only [q1, q2, q3, q4, cond_true, cond_false, if_neg hc, Int.toNat_natCast, hC _ hs'.sm, Option.bind_some, List.take_length]
            rw [show room (cols.length + [((colW tyI ((ws.take e).drop 1)).1, ((colW tyI ((ws.take e).drop 1)).2.1, ((colW tyI ((ws.take e).drop 1)).2.2.1, ((colW tyI ((ws.take e).drop 1)).2.2.2.1, ((colW tyI ((ws.take e).drop 1)).2.2.2.2.1, ((colW tyI ((ws.take e).drop 1)).2.2.2.2.2.1, (colW tyI ((ws.take e).drop 1)).2.2.2.2.2.2))))))].length) 64 = true from room64 q5, cond_true]
            exact ih (ws.drop (e + 1)) _ (hw.drop _) (by simp; omega) (by simp; omega)
        · have q2 : decide (0 ≤ (1 : Int) ∧ (1 : Int) ≤ ((ws.length : Nat) : Int) ∧ ((ws.length : Nat) : Int) ≤ (ws.length : Int)) = true := decide_eq_true ⟨by omega, by omega, by omega⟩
          simp only [ho, decide_false, cond_false, if_false, q2, cond_true, Int.toNat_natCast, List.take_length, hT (ws.drop 1) (by have := hw.1; simp; omega), Option.bind_some]
  rw [impl_createOf]
  have := loop n ws [] hw (by have := hw.1; omega) (by have := hw.1; simpa using this)
  simp only [crtW]
  rw [← crt_fuel tyI n (ws.length + 1) ws [] (by have := hw.1; omega) (by omega)]
  exact this
def badC (l : T_ColS) : Prop := ∃ c ∈ l, cColOk c = false
theorem crt_either (ws : List ByteArray) : (crtW tyI ws).2 = (crtW tyS ws).2 ∧ ((crtW tyI ws).1 = (crtW tyS ws).1 ∨ (badC (crtW tyI ws).1 ∧ badC (crtW tyS ws).1)) := by
  have key : ∀ (f : Nat) (ws : List ByteArray) (a b : T_ColS), (a = b ∨ (badC a ∧ badC b)) → (crt tyI f ws a).2 = (crt tyS f ws b).2 ∧ ((crt tyI f ws a).1 = (crt tyS f ws b).1 ∨ (badC (crt tyI f ws a).1 ∧ badC (crt tyS f ws b).1)) := by
    intro f
    induction f with
    | zero => intro ws a b h; exact ⟨rfl, h⟩
    | succ f ih =>
      intro ws a b h
      simp only [crt]
      split
      · exact ⟨rfl, h⟩
      · split
        · split
          · exact ⟨rfl, h⟩
          · refine ih _ _ _ ?_
            rcases h with rfl | ⟨⟨c, hc, hb⟩, ⟨d, hd, hb2⟩⟩
            · rcases colW_either ((ws.take (idx pc ws).toNat).drop 1) with e | ⟨e1, e2⟩
              · left; rw [e]
              · right; exact ⟨⟨_, List.mem_append_right _ (List.mem_singleton.mpr rfl), e1⟩, ⟨_, List.mem_append_right _ (List.mem_singleton.mpr rfl), e2⟩⟩
            · right; exact ⟨⟨c, List.mem_append_left _ hc, hb⟩, ⟨d, List.mem_append_left _ hd, hb2⟩⟩
        · exact ⟨rfl, h⟩
  exact key _ ws [] [] (.inl rfl)
theorem crt_sm {ty : ByteArray → Int} {ws : List ByteArray} (h : wsOk ws) (hl : ws.length ≤ 1048575) : sm_ColS 1048576 (crtW ty ws).1 ∧ sm_StringS 1048576 (crtW ty ws).2 := by
  have key : ∀ (f : Nat) (ws : List ByteArray) (a : T_ColS), wsOk ws → (∀ c ∈ a, sm_Col 1048576 c) → a.length + ws.length ≤ 1048576 → sm_ColS 1048576 (crt ty f ws a).1 ∧ sm_StringS 1048576 (crt ty f ws a).2 := by
    intro f
    induction f with
    | zero => intro ws a hw ha hl; exact ⟨⟨by simp [crt]; omega, ha⟩, ⟨by simp [crt], by simp [crt]⟩⟩
    | succ f ih =>
      intro ws a hw ha hl
      have nil : sm_StringS 1048576 [] := ⟨by simp, by simp⟩
      simp only [crt]
      split
      · exact ⟨⟨by simp; omega, ha⟩, nil⟩
      · split
        · split
          · exact ⟨⟨by simp; omega, ha⟩, nil⟩
          · refine ih _ _ (hw.drop _) (fun c hc => ?_) (by simp; omega)
            rcases List.mem_append.mp hc with hc | hc
            · exact ha c hc
            · rw [List.mem_singleton.mp hc]; exact colW_sm ((hw.take _).drop 1)
        · exact ⟨⟨by simp; omega, ha⟩, ⟨by simp; omega, fun w hw' => hw.2 w (List.mem_of_mem_drop hw')⟩⟩
  exact key _ ws [] h (by simp) (by simp; omega)
def fin (d : T_Ddl) (s : ByteArray) : T_Ddl × (Bool × Unit) := if cDdlText d = s then (d, (true, ())) else (noDdl, (false, ()))
theorem fin_bif (d : T_Ddl) (s : ByteArray) : (bif !(decide (cDdlText d = s)) then some (noDdl, (false, ())) else some (d, (true, ()))) = some (fin d s) := by
  unfold fin
  by_cases h : cDdlText d = s <;> simp [h]
theorem fin_bad {d : T_Ddl} {s : ByteArray} (h : cDdlText d ≠ s) : fin d s = (noDdl, (false, ())) := by simp [fin, h]
def tCreate : ByteArray := ⟨#[99, 114, 101, 97, 116, 101]⟩
def tDrop : ByteArray := ⟨#[100, 114, 111, 112]⟩
def tAdd : ByteArray := ⟨#[97, 100, 100]⟩
def tOut : ByteArray := ⟨#[111, 117, 116]⟩
def tName : ByteArray := ⟨#[110, 97, 109, 101]⟩
noncomputable def cTextDdl (s : ByteArray) : T_Ddl × (Bool × Unit) := if (cCut s 32).length < 2 then (noDdl, (false, ())) else
  if (cCut s 32).getD 0 E0 = tCreate then fin (1, ((cCut s 32).getD 1 E0, ((crtW tyS ((cCut s 32).drop 2)).1, ((crtW tyS ((cCut s 32).drop 2)).2, (E0, E0))))) s else
  if (cCut s 32).getD 0 E0 = tDrop then fin (2, ((cCut s 32).getD 1 E0, ([], ([], (E0, E0))))) s else
  if (cCut s 32).getD 0 E0 = tAdd then fin (3, ((cCut s 32).getD 1 E0, ([colW tyS ((cCut s 32).drop 2)], ([], (E0, E0))))) s else
  if (cCut s 32).getD 0 E0 = tOut ∧ (cCut s 32).length = 3 then fin (4, ((cCut s 32).getD 1 E0, ([], ([], ((cCut s 32).getD 2 E0, E0))))) s else
  if (cCut s 32).getD 0 E0 = tName ∧ (cCut s 32).length = 4 then fin (5, ((cCut s 32).getD 1 E0, ([], ([], ((cCut s 32).getD 2 E0, (cCut s 32).getD 3 E0))))) s else (noDdl, (false, ()))
def wsum (l : List ByteArray) : Nat := (l.map fun w => w.size + 1).sum
theorem cutF_sum (s : ByteArray) (c : Int) : ∀ (t : List UInt8) (k f : Nat) (acc : List ByteArray), k + t.length = s.size → f ≤ k → wsum (cutF s c t k f acc) = wsum acc + (s.size - f + 1)
  | [], k, f, acc, h, hf => by
    simp at h; subst h
    simp [cutF, wsum, ByteArray.size_extract]
  | b :: t, k, f, acc, h, hf => by
    simp only [cutF]
    simp only [List.length_cons] at h
    split
    · rw [cutF_sum s c t _ _ _ (by omega) (by omega)]
      simp [wsum, ByteArray.size_extract]; omega
    · exact cutF_sum s c t _ _ _ (by omega) (by omega)
theorem cCut_sum (s : ByteArray) (c : Int) : wsum (cCut s c) = s.size + 1 := by
  rw [cCut, cutF_sum s c _ 0 0 [] (by rw [data_len]; omega) (by omega)]
  simp [wsum]
theorem cut_ne {s : ByteArray} {c : Int} (h : ¬ (cCut s c).length < 2) : s ≠ E0 := by
  intro e
  have h1 := cCut_sum s c
  have h2 : s.size = 0 := by rw [e]; rfl
  generalize cCut s c = w at h h1
  cases w with
  | nil => simp at h
  | cons a w =>
    cases w with
    | nil => simp at h
    | cons b w => simp [wsum] at h1; omega
theorem ddlText_bad {d : T_Ddl} {s : ByteArray} (hs : s ≠ E0) (h : cDdlOk d = false) : cDdlText d ≠ s := by
  simp only [cDdlText, h]; exact fun e => hs e.symm
theorem wordOk_E0 : cWordOk E0 = false := by decide
theorem out_bad {s : ByteArray} (h2 : ¬ (cCut s 32).length < 2) (h0 : (cCut s 32).getD 0 E0 = tOut) (h3 : ¬ (cCut s 32).length = 3) : cDdlText (4, ((cCut s 32).getD 1 E0, ([], ([], ((cCut s 32).getD 2 E0, E0))))) ≠ s := by
  have hs := cut_ne h2
  have hsum := cCut_sum s 32
  generalize cCut s 32 = w at h2 h0 h3 hsum ⊢
  by_cases h : w.length < 3
  · refine ddlText_bad hs ?_
    have : w.getD 2 E0 = E0 := by simp [List.getD, List.getElem?_eq_none (show w.length ≤ 2 by omega)]
    generalize w.getD 2 E0 = x at this ⊢
    subst this
    simp [cDdlOk, wordOk_E0]
  · rcases w with _ | ⟨a, _ | ⟨b, _ | ⟨c, _ | ⟨d, w⟩⟩⟩⟩
    · simp at h2
    · simp at h2
    · simp at h
    · simp at h3
    · simp only [List.getD_cons_zero, List.getD_cons_succ] at h0 ⊢
      subst h0
      intro e
      unfold cDdlText at e
      split at e
      · have hj : cJoin (ddlTs (4, (b, ([], ([], (c, E0)))))) = tOut ++ space ++ b ++ space ++ c := by
          simp [ddlTs, cJoin, glueK, verbs]; rfl
        rw [hj] at e
        have := congrArg ByteArray.size e
        simp [ByteArray.size_append, space_size] at this
        simp [wsum] at hsum
        omega
      · exact hs e.symm
theorem name_bad {s : ByteArray} (h2 : ¬ (cCut s 32).length < 2) (h0 : (cCut s 32).getD 0 E0 = tName) (h3 : ¬ (cCut s 32).length = 4) : cDdlText (5, ((cCut s 32).getD 1 E0, ([], ([], ((cCut s 32).getD 2 E0, (cCut s 32).getD 3 E0))))) ≠ s := by
  have hs := cut_ne h2
  have hsum := cCut_sum s 32
  generalize cCut s 32 = w at h2 h0 h3 hsum ⊢
  by_cases h : w.length < 4
  · refine ddlText_bad hs ?_
    have : w.getD 3 E0 = E0 := by simp [List.getD, List.getElem?_eq_none (show w.length ≤ 3 by omega)]
    generalize w.getD 3 E0 = x at this ⊢
    subst this
    simp [cDdlOk, wordOk_E0]
  · rcases w with _ | ⟨a, _ | ⟨b, _ | ⟨c, _ | ⟨d, _ | ⟨f, w⟩⟩⟩⟩⟩
    · simp at h2
    · simp at h2
    · simp at h
    · simp at h
    · simp at h3
    · simp only [List.getD_cons_zero, List.getD_cons_succ] at h0 ⊢
      subst h0
      intro e
      unfold cDdlText at e
      split at e
      · have hj : cJoin (ddlTs (5, (b, ([], ([], (c, d)))))) = tName ++ space ++ b ++ space ++ c ++ space ++ d := by
          simp [ddlTs, cJoin, glueK, verbs]; rfl
        rw [hj] at e
        have := congrArg ByteArray.size e
        simp [ByteArray.size_append, space_size] at this
        simp [wsum] at hsum
        omega
      · exact hs e.symm
theorem crt_text {s : ByteArray} (hs : s ≠ E0) (tb : ByteArray) (ws : List ByteArray) : fin (1, (tb, ((crtW tyI ws).1, ((crtW tyI ws).2, (E0, E0))))) s = fin (1, (tb, ((crtW tyS ws).1, ((crtW tyS ws).2, (E0, E0))))) s := by
  obtain ⟨e2, e1 | ⟨b1, b2⟩⟩ := crt_either ws
  · rw [e1, e2]
  · have bad : ∀ (cs : T_ColS) (ks : List ByteArray), badC cs → cDdlOk (1, (tb, (cs, (ks, (E0, E0))))) = false := by
      intro cs ks ⟨c, hc, hb⟩
      cases h : cTableOk (tb, (cs, ks)) with
      | false => simp [cDdlOk, h]
      | true =>
        have := tableOk_cols h c hc
        rw [hb] at this; cases this
    rw [fin_bad (ddlText_bad hs (bad _ _ b1)), fin_bad (ddlText_bad hs (bad _ _ b2))]
theorem add_text {s : ByteArray} (hs : s ≠ E0) (tb : ByteArray) (ws : List ByteArray) : fin (3, (tb, ([colW tyI ws], ([], (E0, E0))))) s = fin (3, (tb, ([colW tyS ws], ([], (E0, E0))))) s := by
  rcases colW_either ws with e | ⟨b1, b2⟩
  · rw [e]
  · rw [fin_bad (ddlText_bad hs (by simp [cDdlOk, b1])), fin_bad (ddlText_bad hs (by simp [cDdlOk, b2]))]

theorem sliceEq (w : List ByteArray) : (w.drop 2).take (((w.length : Nat) : Int).toNat - 2) = w.drop 2 := by
  rw [List.take_of_length_le]
  simp
theorem impl_TextDdl_ok : EV fun n => ∀ s : ByteArray, s.size ≤ 1048576 → impl_TextDdl n s = some (cTextDdl s) := (impl_Words_ok.and (impl_createOf_ok.and (impl_colOf_ok.and impl_DdlText_ok))).up fun n ⟨h1, h2, h3, hD⟩ s hs => by
  have hw := wsOk_cut 32 hs
  have hne := @cut_ne s 32
  have ht := fun hs => crt_text (s := s) hs ((cCut s 32).getD 1 E0) ((cCut s 32).drop 2)
  have ha := fun hs => add_text (s := s) hs ((cCut s 32).getD 1 E0) ((cCut s 32).drop 2)
  simp only [impl_TextDdl, h1 s hs, Option.bind_some, cTextDdl]
  generalize cCut s 32 = w at hw hne ht ha ⊢
  by_cases hl : w.length < 2
  · have e0 : decide ((w.length : Int) < (2 : Int)) = true := decide_eq_true (by omega)
    simp only [e0, cond_true, if_pos hl]; rfl
  · have hs0 := hne hl
    have hl1 := hw.1
    have ht := ht hs0
    have ha := ha hs0
    have e0 : decide ((w.length : Int) < (2 : Int)) = false := decide_eq_false (by omega)
    have e1 : inR (0 : Int) w.length = true := inR_true (k := 0) (by omega)
    have e2 : inR (1 : Int) w.length = true := inR_true (k := 1) (by omega)
    have e3 : decide (0 ≤ (2 : Int) ∧ (2 : Int) ≤ ((w.length : Nat) : Int) ∧ ((w.length : Nat) : Int) ≤ (w.length : Int)) = true := decide_eq_true ⟨by omega, by omega, by omega⟩
    have z0 : E0.size ≤ 1048576 := by decide
    have zc : sm_ColS 1048576 [] := ⟨by simp, by simp⟩
    have zs : sm_StringS 1048576 [] := ⟨by simp, by simp⟩
    have d2 := hw.drop 2
    obtain ⟨m1, m2⟩ := crt_sm (ty := tyI) d2 (by simp; omega)
    have D0 : impl_DdlText n 0 (w.getD 1 E0) [] [] E0 E0 = some (cDdlText (0, (w.getD 1 E0, ([], ([], (E0, E0)))))) := hD (0, (w.getD 1 E0, ([], ([], (E0, E0))))) ⟨hw.get 1, zc, zs, z0, z0⟩
    have D1 : impl_DdlText n 1 (w.getD 1 E0) (crtW tyI (w.drop 2)).1 (crtW tyI (w.drop 2)).2 E0 E0 = some (cDdlText (1, (w.getD 1 E0, ((crtW tyI (w.drop 2)).1, ((crtW tyI (w.drop 2)).2, (E0, E0)))))) := hD (1, (w.getD 1 E0, ((crtW tyI (w.drop 2)).1, ((crtW tyI (w.drop 2)).2, (E0, E0))))) ⟨hw.get 1, m1, m2, z0, z0⟩
    have D2 : impl_DdlText n 2 (w.getD 1 E0) [] [] E0 E0 = some (cDdlText (2, (w.getD 1 E0, ([], ([], (E0, E0)))))) := hD (2, (w.getD 1 E0, ([], ([], (E0, E0))))) ⟨hw.get 1, zc, zs, z0, z0⟩
    have D3 : impl_DdlText n 3 (w.getD 1 E0) [colW tyI (w.drop 2)] [] E0 E0 = some (cDdlText (3, (w.getD 1 E0, ([colW tyI (w.drop 2)], ([], (E0, E0)))))) := hD (3, (w.getD 1 E0, ([colW tyI (w.drop 2)], ([], (E0, E0))))) ⟨hw.get 1, ⟨by simp, fun c hc => by rw [List.mem_singleton.mp hc]; exact colW_sm d2⟩, zs, z0, z0⟩
    have D4 : impl_DdlText n 4 (w.getD 1 E0) [] [] (w.getD 2 E0) E0 = some (cDdlText (4, (w.getD 1 E0, ([], ([], (w.getD 2 E0, E0)))))) := hD (4, (w.getD 1 E0, ([], ([], (w.getD 2 E0, E0))))) ⟨hw.get 1, zc, zs, hw.get 2, z0⟩
    have D5 : impl_DdlText n 5 (w.getD 1 E0) [] [] (w.getD 2 E0) (w.getD 3 E0) = some (cDdlText (5, (w.getD 1 E0, ([], ([], (w.getD 2 E0, w.getD 3 E0)))))) := hD (5, (w.getD 1 E0, ([], ([], (w.getD 2 E0, w.getD 3 E0))))) ⟨hw.get 1, zc, zs, hw.get 2, hw.get 3⟩
    have C1 := h2 1 (w.getD 1 E0) E0 E0 (w.drop 2) d2
    have C3 := h3 (w.drop 2) d2.sm
    have bad0 : cDdlText (0, (w.getD 1 E0, ([], ([], (E0, E0))))) ≠ s := ddlText_bad hs0 (by simp [cDdlOk])
    simp only [e0, e1, e2, e3, cond_true, cond_false, if_neg hl, text_eq, sliceEq, int_beq, show (0 : Int).toNat = 0 from rfl, show (1 : Int).toNat = 1 from rfl, show (2 : Int).toNat = 2 from rfl, show (3 : Int).toNat = 3 from rfl, show (⟨#[]⟩ : ByteArray) = E0 from rfl,
      show (⟨#[99, 114, 101, 97, 116, 101]⟩ : ByteArray) = tCreate from rfl, show (⟨#[100, 114, 111, 112]⟩ : ByteArray) = tDrop from rfl, show (⟨#[97, 100, 100]⟩ : ByteArray) = tAdd from rfl, show (⟨#[111, 117, 116]⟩ : ByteArray) = tOut from rfl, show (⟨#[110, 97, 109, 101]⟩ : ByteArray) = tName from rfl]
    by_cases c1 : w.getD 0 E0 = tCreate
    · simp only [c1, decide_true, cond_true, if_true, C1, Option.bind_some, D1]
      rw [← ht]; exact fin_bif _ _
    · simp only [c1, decide_false, cond_false, if_false]
      by_cases c2 : w.getD 0 E0 = tDrop
      · simp only [c2, decide_true, cond_true, if_true, Option.bind_some, D2]
        exact fin_bif _ _
      · simp only [c2, decide_false, cond_false, if_false]
        by_cases c3 : w.getD 0 E0 = tAdd
        · simp only [c3, decide_true, cond_true, if_true, C3, Option.bind_some]
          rw [← ha]
          refine Eq.trans (congrArg (fun o => Option.bind o _) D3) ?_
          exact fin_bif _ _
        · simp only [c3, decide_false, cond_false, if_false]
          have dd0 : ∀ X, (impl_DdlText n 0 (w.getD 1 E0) [] [] E0 E0).bind (fun r => bif !(decide (r = s)) then some (noDdl, (false, ())) else X) = some (noDdl, (false, ())) := by
            intro X
            simp only [D0, Option.bind_some, bad0, decide_false, Bool.not_false, cond_true]
          by_cases c4 : w.getD 0 E0 = tOut
          · have c5 : ¬ w.getD 0 E0 = tName := by rw [c4]; decide
            by_cases l3 : w.length = 3
            · have q1 : decide ((w.length : Int) = 3) = true := decide_eq_true (by omega)
              have q2 : inR (2 : Int) w.length = true := inR_true (k := 2) (by omega)
              simp only [c4, l3, and_self, if_true, decide_true, cond_true, Option.bind_some]
              have q2' : inR (2 : Int) 3 = true := by decide
              have q1' : decide (((3 : Nat) : Int) = 3) = true := by decide
              simp only [q1', q2', cond_true, D4, Option.bind_some]
              exact fin_bif _ _
            · have q1 : decide ((w.length : Int) = 3) = false := decide_eq_false (by omega)
              have n4 : ¬ (tOut = tName) := by decide
              simp only [c4, l3, and_false, if_false, decide_true, cond_true, q1, cond_false, n4, false_and, decide_false]
              exact dd0 _
          · simp only [c4, decide_false, cond_false, if_false, false_and]
            by_cases c5 : w.getD 0 E0 = tName
            · by_cases l4 : w.length = 4
              · have q1 : decide ((w.length : Int) = 4) = true := decide_eq_true (by omega)
                have q2 : inR (2 : Int) w.length = true := inR_true (k := 2) (by omega)
                have q3 : inR (3 : Int) w.length = true := inR_true (k := 3) (by omega)
                simp only [q1, q2, q3, c5, decide_true, cond_true, D5, Option.bind_some]
                rw [if_pos ⟨trivial, l4⟩]
                exact fin_bif _ _
              · have q1 : decide ((w.length : Int) = 4) = false := decide_eq_false (by omega)
                simp only [q1, c5, decide_true, cond_true, cond_false, l4, and_false, if_false]
                exact dd0 _
            · simp only [c5, decide_false, cond_false, if_false, false_and]
              exact dd0 _
theorem getD_end {w : List ByteArray} {i : Nat} (h : ¬ i < w.length) : w.getD i E0 = E0 := by simp [List.getD, List.getElem?_eq_none (show w.length ≤ i by omega)]
theorem spec_TextDdl_ok : EV fun n => ∀ s : ByteArray, s.size ≤ 1048576 → spec_TextDdl n s = some (cTextDdl s) := (spec_Words_ok.and (spec_l05Create_ok.and (spec_l05ReadCol_ok.and spec_DdlText_ok))).up fun n ⟨h1, h2, h3, hD⟩ s hs => by
  have hw := wsOk_cut 32 hs
  have hne := @cut_ne s 32
  have ho := @out_bad s
  have hm := @name_bad s
  simp only [spec_TextDdl, h1 s hs, Option.bind_some, cTextDdl]
  generalize cCut s 32 = w at hw hne ho hm ⊢
  by_cases hl : w.length < 2
  · have e0 : decide ((w.length : Int) < (2 : Int)) = true := decide_eq_true (by omega)
    simp only [e0, cond_true, if_pos hl]; rfl
  · have hs0 := hne hl
    have hl1 := hw.1
    have e0 : decide ((w.length : Int) < (2 : Int)) = false := decide_eq_false (by omega)
    have e1 : inR (0 : Int) w.length = true := inR_true (k := 0) (by omega)
    have e2 : inR (1 : Int) w.length = true := inR_true (k := 1) (by omega)
    have e3 : decide (0 ≤ (2 : Int) ∧ (2 : Int) ≤ ((w.length : Nat) : Int) ∧ ((w.length : Nat) : Int) ≤ (w.length : Int)) = true := decide_eq_true ⟨by omega, by omega, by omega⟩
    have z0 : E0.size ≤ 1048576 := by decide
    have zc : sm_ColS 1048576 [] := ⟨by simp, by simp⟩
    have zs : sm_StringS 1048576 [] := ⟨by simp, by simp⟩
    have d2 := hw.drop 2
    obtain ⟨m1, m2⟩ := crt_sm (ty := tyS) d2 (by simp; omega)
    have DD : ∀ (k : Int) (cs : T_ColS) (ks : T_StringS) (a b : ByteArray), sm_ColS 1048576 cs → sm_StringS 1048576 ks → a.size ≤ 1048576 → b.size ≤ 1048576 → spec_DdlText n k (w.getD 1 E0) cs ks a b = some (cDdlText (k, (w.getD 1 E0, (cs, (ks, (a, b)))))) := fun k cs ks a b g1 g2 g3 g4 => hD (k, (w.getD 1 E0, (cs, (ks, (a, b))))) ⟨hw.get 1, g1, g2, g3, g4⟩
    have C1 := h2 1 (w.getD 1 E0) E0 E0 (w.drop 2) d2
    have C3 := h3 (w.drop 2) d2.sm
    have D1 := DD 1 _ _ E0 E0 m1 m2 z0 z0
    have D2 := DD 2 [] [] E0 E0 zc zs z0 z0
    have D3 := DD 3 [colW tyS (w.drop 2)] [] E0 E0 ⟨by simp, fun c hc => by rw [List.mem_singleton.mp hc]; exact colW_sm d2⟩ zs z0 z0
    have D0 := DD 0 [] [] E0 E0 zc zs z0 z0
    have D4 := DD 4 [] [] _ E0 zc zs (hw.get 2) z0
    have D4' := DD 4 [] [] E0 E0 zc zs z0 z0
    have D5 := DD 5 [] [] _ _ zc zs (hw.get 2) (hw.get 3)
    have D5' := DD 5 [] [] _ E0 zc zs (hw.get 2) z0
    have D5'' := DD 5 [] [] E0 E0 zc zs z0 z0
    have bad0 : cDdlText (0, (w.getD 1 E0, ([], ([], (E0, E0))))) ≠ s := ddlText_bad hs0 (by simp [cDdlOk])
    have w0 := ho hl
    have w1 := hm hl
    simp only [e0, e1, e2, e3, cond_true, cond_false, if_neg hl, text_eq, sliceEq, int_beq, show (0 : Int).toNat = 0 from rfl, show (1 : Int).toNat = 1 from rfl, show (2 : Int).toNat = 2 from rfl, show (3 : Int).toNat = 3 from rfl, show (⟨#[]⟩ : ByteArray) = E0 from rfl,
      show (⟨#[99, 114, 101, 97, 116, 101]⟩ : ByteArray) = tCreate from rfl, show (⟨#[100, 114, 111, 112]⟩ : ByteArray) = tDrop from rfl, show (⟨#[97, 100, 100]⟩ : ByteArray) = tAdd from rfl, show (⟨#[111, 117, 116]⟩ : ByteArray) = tOut from rfl, show (⟨#[110, 97, 109, 101]⟩ : ByteArray) = tName from rfl,
      show decide ((0 : Int) = 4) = false from rfl, show decide ((0 : Int) = 5) = false from rfl, show decide ((2 : Int) = 4) = false from rfl, show decide ((2 : Int) = 5) = false from rfl, show decide ((3 : Int) = 4) = false from rfl, show decide ((3 : Int) = 5) = false from rfl,
      show decide ((4 : Int) = 4) = true from rfl, show decide ((4 : Int) = 5) = false from rfl, show decide ((5 : Int) = 4) = false from rfl, show decide ((5 : Int) = 5) = true from rfl, D0, D2, bad0, C1, C3, Option.bind_some, show decide ((1 : Int) = 4) = false from rfl, show decide ((1 : Int) = 5) = false from rfl, D1, decide_false, Bool.not_false]
    by_cases c1 : w.getD 0 E0 = tCreate
    · simp only [c1, decide_true, cond_true, if_true]
      exact fin_bif _ _
    · simp only [c1, decide_false, cond_false, if_false]
      by_cases c2 : w.getD 0 E0 = tDrop
      · simp only [c2, decide_true, cond_true, if_true]
        exact fin_bif _ _
      · simp only [c2, decide_false, cond_false, if_false]
        by_cases c3 : w.getD 0 E0 = tAdd
        · simp only [c3, decide_true, cond_true, if_true]
          refine Eq.trans (congrArg (fun o => Option.bind o _) D3) ?_
          exact fin_bif _ _
        · simp only [c3, decide_false, cond_false, if_false]
          by_cases c4 : w.getD 0 E0 = tOut
          · have n4 : ¬ (tOut = tName) := by decide
            have hX : (if w.getD 0 E0 = tOut ∧ w.length = 3 then fin (4, (w.getD 1 E0, ([], ([], (w.getD 2 E0, E0))))) s else if w.getD 0 E0 = tName ∧ w.length = 4 then fin (5, (w.getD 1 E0, ([], ([], (w.getD 2 E0, w.getD 3 E0))))) s else (noDdl, (false, ()))) = fin (4, (w.getD 1 E0, ([], ([], (w.getD 2 E0, E0))))) s := by
              by_cases l3 : w.length = 3
              · rw [if_pos ⟨c4, l3⟩]
              · rw [if_neg (fun h => l3 h.2), if_neg (fun h => n4 (by rw [← c4]; exact h.1)), fin_bad (w0 c4 l3)]
            rw [hX]
            simp only [c4, decide_true, cond_true]
            by_cases l2 : 2 < w.length
            · have q1 : decide ((2 : Int) < (w.length : Int)) = true := decide_eq_true (by omega)
              have q2 : inR (2 : Int) w.length = true := inR_true (k := 2) l2
              simp only [q1, q2, cond_true, D4, Option.bind_some]
              exact fin_bif _ _
            · have q1 : decide ((2 : Int) < (w.length : Int)) = false := decide_eq_false (by omega)
              rw [getD_end l2]
              simp only [q1, cond_false, D4', Option.bind_some]
              exact fin_bif _ _
          · simp only [c4, decide_false, cond_false, if_false, false_and]
            by_cases c5 : w.getD 0 E0 = tName
            · have hX : (if w.getD 0 E0 = tName ∧ w.length = 4 then fin (5, (w.getD 1 E0, ([], ([], (w.getD 2 E0, w.getD 3 E0))))) s else (noDdl, (false, ()))) = fin (5, (w.getD 1 E0, ([], ([], (w.getD 2 E0, w.getD 3 E0))))) s := by
                by_cases l3 : w.length = 4
                · rw [if_pos ⟨c5, l3⟩]
                · rw [if_neg (fun h => l3 h.2), fin_bad (w1 c5 l3)]
              rw [hX]
              simp only [c5, decide_true, cond_true]
              by_cases l2 : 2 < w.length
              · have q1 : decide ((2 : Int) < (w.length : Int)) = true := decide_eq_true (by omega)
                have q2 : inR (2 : Int) w.length = true := inR_true (k := 2) l2
                by_cases l3 : 3 < w.length
                · have q3 : decide ((3 : Int) < (w.length : Int)) = true := decide_eq_true (by omega)
                  have q4 : inR (3 : Int) w.length = true := inR_true (k := 3) l3
                  simp only [q1, q2, q3, q4, cond_true, D5, Option.bind_some]
                  exact fin_bif _ _
                · have q3 : decide ((3 : Int) < (w.length : Int)) = false := decide_eq_false (by omega)
                  rw [getD_end l3]
                  simp only [q1, q2, q3, cond_true, cond_false, D5', Option.bind_some]
                  exact fin_bif _ _
              · have q1 : decide ((2 : Int) < (w.length : Int)) = false := decide_eq_false (by omega)
                have q3 : decide ((3 : Int) < (w.length : Int)) = false := decide_eq_false (by omega)
                rw [getD_end l2, getD_end (show ¬ 3 < w.length by omega)]
                simp only [q1, q3, cond_false, D5'', Option.bind_some]
                exact fin_bif _ _
            · simp only [c5, decide_false, cond_false, if_false, false_and]
              have dd0 : ∀ (a b : ByteArray), a.size ≤ 1048576 → b.size ≤ 1048576 → spec_DdlText n 0 (w.getD 1 E0) [] [] a b = some E0 := fun a b ga gb => by
                rw [DD 0 [] [] a b zc zs ga gb]
                simp [cDdlText, cDdlOk]
              have hE : ¬ (E0 = s) := fun e => hs0 e.symm
              rfl
theorem fin_sm {d : T_Ddl} {s : ByteArray} (h : sm_Ddl 1048576 d) : sm_Ddl 1048576 (fin d s).1 := by
  unfold fin
  split
  · exact h
  · exact ⟨by decide, ⟨by simp [noDdl], by simp [noDdl]⟩, ⟨by simp [noDdl], by simp [noDdl]⟩, by decide, by decide⟩
theorem cTextDdl_sm {s : ByteArray} (hs : s.size ≤ 1048576) : sm_Ddl 1048576 (cTextDdl s).1 := by
  have hw := wsOk_cut 32 hs
  unfold cTextDdl
  generalize cCut s 32 = w at hw ⊢
  have z0 : E0.size ≤ 1048576 := by decide
  have zc : sm_ColS 1048576 [] := ⟨by simp, by simp⟩
  have zs : sm_StringS 1048576 [] := ⟨by simp, by simp⟩
  have d2 := hw.drop 2
  split
  · exact noDdl_sm
  · have hl := hw.1
    obtain ⟨m1, m2⟩ := crt_sm (ty := tyS) d2 (by simp; omega)
    split
    · exact fin_sm ⟨hw.get 1, m1, m2, z0, z0⟩
    · split
      · exact fin_sm ⟨hw.get 1, zc, zs, z0, z0⟩
      · split
        · exact fin_sm ⟨hw.get 1, ⟨by simp, fun c hc => by rw [List.mem_singleton.mp hc]; exact colW_sm d2⟩, zs, z0, z0⟩
        · split
          · exact fin_sm ⟨hw.get 1, zc, zs, hw.get 2, z0⟩
          · split
            · exact fin_sm ⟨hw.get 1, zc, zs, hw.get 2, hw.get 3⟩
            · exact noDdl_sm
theorem sI_extract (s : ByteArray) (a b : Nat) : sI (s.extract a b) = ((sI s).drop a).take (b - a) := by
  unfold sI
  rw [ByteArray.data_extract, Array.toList_extract, List.extract_eq_drop_take, List.map_take, List.map_drop]
theorem sI_app (a b : ByteArray) : sI (a ++ b) = sI a ++ sI b := by simp [sI, ByteArray.data_append]
theorem sI_inj {a b : ByteArray} (h : sI a = sI b) : a = b := by
  apply text_ext
  unfold sI at h
  refine List.map_inj_right (f := fun b : UInt8 => (b.toNat : Int)) (fun x y e => ?_) |>.mp h
  exact UInt8.toNat.inj (by omega)
def spl : List Int → List Int → List (List Int)
  | [], cur => [cur]
  | b :: t, cur => if b = 32 then cur :: spl t [] else spl t (cur ++ [b])
theorem cutF_spl (s : ByteArray) : ∀ (t : List UInt8) (k f : Nat) (acc : List ByteArray), s.data.toList.drop k = t → k ≤ s.size → f ≤ k →
    (cutF s 32 t k f acc).map sI = acc.map sI ++ spl (t.map fun b => (b.toNat : Int)) (((sI s).drop f).take (k - f))
  | [], k, f, acc, hd, hk, hf => by simp [cutF, spl, sI_extract]
  | b :: t, k, f, acc, hd, hk, hf => by
    have hd' : (sI s).drop k = (b.toNat : Int) :: t.map fun b => (b.toNat : Int) := by
      unfold sI; rw [← List.map_drop, hd]; rfl
    have hlt : k < s.size := by
      have := congrArg List.length hd
      simp only [List.length_drop, data_len, List.length_cons] at this; omega
    have hd2 : s.data.toList.drop (k + 1) = t := by rw [← List.drop_drop, hd]; rfl
    simp only [cutF, List.map_cons, spl]
    split
    · rename_i h
      rw [cutF_spl s t (k + 1) (k + 1) _ hd2 (by omega) (by omega)]
      simp [sI_extract]
    · rw [cutF_spl s t (k + 1) f _ hd2 (by omega) (by omega)]
      congr 2
      have h1 : ((sI s).drop f)[k - f]? = some (b.toNat : Int) := by
        rw [List.getElem?_drop, show f + (k - f) = k by omega]
        have := congrArg (fun l : List Int => l[0]?) hd'
        simpa [List.getElem?_drop] using this
      rw [show k + 1 - f = (k - f) + 1 by omega, List.take_add_one, h1]
      rfl
theorem cCut_spl (s : ByteArray) : (cCut s 32).map sI = spl (sI s) [] := by
  rw [cCut, cutF_spl s s.data.toList 0 0 [] rfl (by omega) (by omega)]
  simp [sI]
def noSp (s : ByteArray) : Prop := ∀ x ∈ sI s, x ≠ 32
theorem spl_word : ∀ (x rest cur : List Int), (∀ b ∈ x, b ≠ 32) → spl (x ++ rest) cur = spl rest (cur ++ x)
  | [], rest, cur, _ => by simp
  | b :: x, rest, cur, h => by
    simp only [List.cons_append, spl]
    rw [if_neg (h b (List.mem_cons_self ..)), spl_word x rest _ fun y hy => h y (List.mem_cons_of_mem _ hy)]
    simp
theorem sI_glue : ∀ (r : List ByteArray) (acc : ByteArray), sI (glueK 1 acc r) = sI acc ++ r.flatMap fun w => 32 :: sI w
  | [], acc => by simp [glue_nil]
  | w :: r, acc => by
    rw [glue_cons, sI_glue r, sI_app, sI_app, List.flatMap_cons]
    have : sI space = [32] := by decide
    rw [this]; simp
theorem spl_glue : ∀ (r : List ByteArray) (cur : List Int), (∀ w ∈ r, noSp w) → spl (r.flatMap fun w => 32 :: sI w) cur = cur :: r.map sI
  | [], cur, _ => rfl
  | w :: r, cur, h => by
    rw [List.flatMap_cons, List.cons_append, spl, if_pos rfl, spl_word _ _ _ (h w (List.mem_cons_self ..)), spl_glue r _ fun y hy => h y (List.mem_cons_of_mem _ hy)]
    simp
theorem map_sI_inj : ∀ {l m : List ByteArray}, l.map sI = m.map sI → l = m
  | [], [], _ => rfl
  | [], _ :: _, h => by simp at h
  | _ :: _, [], h => by simp at h
  | a :: l, b :: m, h => by
    simp only [List.map_cons, List.cons.injEq] at h
    rw [sI_inj h.1, map_sI_inj h.2]
/-- words without blanks, put together and cut again -/
theorem cut_join {L : List ByteArray} (h0 : L ≠ []) (h : ∀ w ∈ L, noSp w) : cCut (cJoin L) 32 = L := by
  cases L with
  | nil => exact absurd rfl h0
  | cons a r =>
    apply map_sI_inj
    rw [cCut_spl, join_cons, sI_glue, spl_word _ _ _ (h a (List.mem_cons_self ..)), spl_glue r _ fun y hy => h y (List.mem_cons_of_mem _ hy)]
    simp
theorem noSp_lower {s : ByteArray} (h : cWordOk s = true) : noSp s := by
  simp only [cWordOk, Bool.and_eq_true, List.all_eq_true] at h
  intro x hx
  obtain ⟨b, hb, rfl⟩ := List.mem_map.mp hx
  have := h.1 b hb
  simp only [lower, decide_eq_true_eq] at this
  omega
def wTo : ByteArray := ⟨#[116, 111]⟩
theorem dig_range : ∀ d : Fin 10, sI (dig (d.val : Int)) = [48 + (d.val : Int)] := by decide
theorem decs_range : ∀ (f : Nat) (a : Int), 0 ≤ a → ∀ x ∈ sI (decs f a), 48 ≤ x ∧ x ≤ 57
  | 0, a, _, x, hx => by
    have : sI (decs 0 a) = [] := (by decide : sI E0 = [])
    rw [this] at hx; simp at hx
  | f + 1, a, h, x, hx => by
    have one : ∀ d : Int, 0 ≤ d → d < 10 → ∀ x ∈ sI (dig d), 48 ≤ x ∧ x ≤ 57 := by
      intro d h0 h1 x hx
      obtain ⟨d, rfl⟩ := Int.eq_ofNat_of_zero_le h0
      rw [dig_range ⟨d, by omega⟩] at hx
      simp at hx; subst hx; omega
    simp only [decs] at hx
    split at hx
    · rename_i hlt
      exact one a h hlt x hx
    · rw [sI_app] at hx
      rcases List.mem_append.mp hx with hx | hx
      · exact decs_range f (a / 10) (by omega) x hx
      · exact one (a % 10) (by omega) (by omega) x hx
theorem num_range (a : Int) : ∀ x ∈ sI (cNumText a), x ≠ 32 ∧ x ≤ 57 := by
  intro x hx
  unfold cNumText at hx
  split at hx
  · split at hx
    · rw [sI_app] at hx
      rcases List.mem_append.mp hx with hx | hx
      · have : sI minus = [45] := by decide
        rw [this] at hx; simp at hx; omega
      · have := decs_range 14 (-a) (by omega) x hx; omega
    · have := decs_range 14 a (by omega) x hx; omega
  · have : sI E0 = [] := by decide
    rw [this] at hx; simp at hx
theorem quoteL_sp : ∀ (t : List UInt8), ∀ x ∈ quoteL t, x ≠ 32
  | [], x, hx => by simp [quoteL] at hx
  | b :: t, x, hx => by
    have hh : ∀ k : Fin 16, hexd k.val ≠ 32 := by decide
    simp only [quoteL] at hx
    rcases List.mem_append.mp hx with hx | hx
    · unfold quoteB at hx
      split at hx
      · rename_i hp
        have hp : 33 ≤ b.toNat := hp.1
        simp at hx; omega
      · have hb : b.toNat < 256 := b.toNat_lt
        simp at hx
        rcases hx with hx | hx | hx
        · omega
        · rw [hx]; exact hh ⟨b.toNat / 16, by omega⟩
        · rw [hx]; exact hh ⟨b.toNat % 16, by omega⟩
    · exact quoteL_sp t x hx
theorem valText_noSp {v : T_Val} (h : vOk v = true) : noSp (cValText v) ∧ cValText v ≠ wTo := by
  have hne : cValText v ≠ E0 := valText_ne h rfl
  unfold vOk at h
  unfold cValText at hne ⊢
  rw [if_pos h] at hne ⊢
  split
  · exact ⟨by unfold noSp; decide, by decide⟩
  · split
    · unfold txtBool
      split
      · exact ⟨by unfold noSp; decide, by decide⟩
      · exact ⟨by unfold noSp; decide, by decide⟩
    · split
      · refine ⟨fun x hx => (num_range _ x hx).1, fun e => ?_⟩
        have := (num_range v.2.1 116 (by rw [e]; decide)).2
        omega
      · rw [noSp, quote_sI]
        refine ⟨fun x hx => ?_, fun e => ?_⟩
        · rcases List.mem_cons.mp hx with rfl | hx
          · decide
          · rcases List.mem_append.mp hx with hx | hx
            · exact quoteL_sp _ x hx
            · simp at hx; omega
        · have := congrArg sI e
          rw [quote_sI] at this
          have hs : sI wTo = [116, 111] := by decide
          rw [hs] at this
          simp at this

noncomputable def valsI (l : List ByteArray) : T_ValS := l.map fun x => if (cTV x).2.1 = true then (cTV x).1 else (-1, (0, E0))
noncomputable def valsS (l : List ByteArray) : T_ValS := (l.map fun x => (cTV x).1).take 9
theorem cTV_read {v : T_Val} (h : vOk v = true) (hs : (cValText v).size ≤ 1048576) : cTV (cValText v) = (v, (true, ())) := by
  obtain ⟨n, hn⟩ := impl_TextVal_ok.get
  obtain ⟨r, _, h1, h2⟩ := hn (cValText v) hs
  rw [cTV_eq h1 h2]; exact h2 v h rfl
def Reads (R : List ByteArray → T_ValS) : Prop := ∀ l : T_ValS, l.all vOk = true → l.length ≤ 8 → (∀ t ∈ cVTexts l, t.size ≤ 1048576) → R (cVTexts l) = l
theorem reads_I : Reads valsI := by
  intro l
  induction l with
  | nil => intro _ _ _; rfl
  | cons v l ih =>
    intro h h8 hs
    simp only [List.all_cons, Bool.and_eq_true] at h
    have e := cTV_read h.1 (hs _ (List.mem_cons_self ..))
    have ih := ih h.2 (by simp at h8; omega) fun t ht => hs t (List.mem_cons_of_mem _ ht)
    show (if (cTV (cValText v)).2.1 = true then (cTV (cValText v)).1 else (-1, (0, E0))) :: valsI (cVTexts l) = _
    rw [e, ih]; rfl
theorem reads_S : Reads valsS := by
  intro l h h8 hs
  have : ∀ l : T_ValS, l.all vOk = true → (∀ t ∈ cVTexts l, t.size ≤ 1048576) → ((cVTexts l).map fun x => (cTV x).1) = l := by
    intro l
    induction l with
    | nil => intro _ _; rfl
    | cons v l ih =>
      intro h hs
      simp only [List.all_cons, Bool.and_eq_true] at h
      have e := cTV_read h.1 (hs _ (List.mem_cons_self ..))
      have ih := ih h.2 fun t ht => hs t (List.mem_cons_of_mem _ ht)
      show (cTV (cValText v)).1 :: ((cVTexts l).map fun x => (cTV x).1) = _
      rw [e, ih]
  unfold valsS
  rw [this l h hs, List.take_of_length_le (by omega)]
theorem valsI_sm {l : List ByteArray} (h : wsOk l) (hl : l.length ≤ 1048576) : sm_ValS 1048576 (valsI l) := by
  refine ⟨by simpa [valsI] using hl, fun v hv => ?_⟩
  obtain ⟨x, hx, rfl⟩ := List.mem_map.mp hv
  split
  · exact cTV_small (h.2 x hx)
  · exact (by decide : E0.size ≤ 1048576)
theorem valsS_sm {l : List ByteArray} (h : wsOk l) : sm_ValS 1048576 (valsS l) := by
  refine ⟨by simp [valsS]; omega, fun v hv => ?_⟩
  obtain ⟨x, hx, rfl⟩ := List.mem_map.mp (List.mem_of_mem_take hv)
  exact cTV_small (h.2 x hx)
theorem impl_valsOf_ok : EV fun n => ∀ l : List ByteArray, wsOk l → impl_valsOf n l = some (valsI l) := (impl_TextVal_c.and (EV.gt 1048578)).up fun n ⟨hT, hn⟩ l hl => by
  have h1 := hl.1
  rw [impl_valsOf]
  refine (map_loop l (fun x => if (cTV x).2.1 = true then (cTV x).1 else (-1, (0, E0))) (fun j k s => impl_valsOf_L1 n j l (l.length : Int) (k : Int) s) (fun j s => by simp only [impl_valsOf_L1, lt_cast, Nat.lt_irrefl, decide_false, cond_false]) (fun j k s hk hs => ?_) l n 0 [] rfl (by omega) (by omega) rfl).trans (by rfl)
  have hr : ∀ v : T_Val, room (s.length + [v].length) 32 = true := fun v => room32 (by simp; omega)
  simp only [impl_valsOf_L1, lt_cast, decide_eq_true hk, inR_true hk, Int.toNat_natCast, getD_at hk, cond_true, wrap_succ hk (by omega), hT _ (hl.2 _ (List.getElem_mem hk)), Option.bind_some]
  cases hc : (cTV l[k]).2.1
  · simp only [Bool.not_false, cond_true, hr]; rfl
  · simp only [Bool.not_true, cond_false, hr, if_true]; rfl
theorem spec_l05Read_ok : EV fun n => ∀ l : List ByteArray, wsOk l → spec_l05Read n l = some (valsS l) := (spec_TextVal_c.and (EV.gt 1048578)).up fun n ⟨hT, hn⟩ l hl => by
  have h1 := hl.1
  rw [spec_l05Read]
  have fold : ∀ (l : List ByteArray) (acc : T_ValS), acc.length ≤ 9 → l.foldl (fun (acc : T_ValS) x => if acc.length ≤ 8 then acc ++ [(cTV x).1] else acc) acc = acc ++ (l.map fun x => (cTV x).1).take (9 - acc.length) := by
    intro l
    induction l with
    | nil => intro acc _; simp
    | cons x l ih =>
      intro acc ha
      simp only [List.foldl_cons, List.map_cons]
      by_cases h : acc.length ≤ 8
      · rw [if_pos h, ih _ (by simp; omega), show 9 - acc.length = (9 - (acc.length + 1)) + 1 by omega]
        simp
      · rw [if_neg h, ih _ ha, show 9 - acc.length = 0 by omega]
        simp
  refine (run_loop l (fun x (acc : T_ValS) => some (if acc.length ≤ 8 then acc ++ [(cTV x).1] else acc)) (fun j k s => spec_l05Read_L1 n j l (l.length : Int) (k : Int) s) (fun s => some s) none (fun s => s.length ≤ 9) (fun x _ s s' hs h => ?_) (fun j s _ => by simp only [spec_l05Read_L1, lt_cast, Nat.lt_irrefl, decide_false, cond_false]) (fun j k s hk hs => ?_) l n 0 [] rfl (by omega) (by omega) (by simp)).trans ?_
  · obtain rfl := Option.some.inj h
    split
    · simp; omega
    · exact hs
  · have hr : ∀ v : T_Val, room (s.length + [v].length) 32 = true := fun v => room32 (by simp; omega)
    simp only [spec_l05Read_L1, lt_cast, decide_eq_true hk, inR_true hk, Int.toNat_natCast, getD_at hk, cond_true, wrap_succ hk (by omega), hT _ (hl.2 _ (List.getElem_mem hk)), Option.bind_some, after]
    by_cases c : s.length ≤ 8
    · have : decide ((s.length : Int) ≤ 8) = true := decide_eq_true (by omega)
      simp only [this, cond_true, hr, if_pos c]
    · have : decide ((s.length : Int) ≤ 8) = false := decide_eq_false (by omega)
      simp only [this, cond_false, if_neg c]
  · rw [runs_some, fold l [] (by simp)]
    rfl
def pTo (x : ByteArray) : Bool := decide (x = wTo)
theorem spec_l05To_ok : EV fun n => ∀ l : List ByteArray, l.length ≤ 1048577 → spec_l05To n l = some (if idx pTo l < 0 then (l.length : Int) else idx pTo l) := (EV.gt 1048578).up fun n hn l hl => by
  rw [spec_l05To]
  have : ∀ (t : List ByteArray) (j k : Nat), l.drop k = t → k ≤ l.length → t.length < j → spec_l05To_L1 n j l l (l.length : Int) (k : Int) = some (if idxFrom pTo t k < 0 then (l.length : Int) else idxFrom pTo t k) := by
    intro t
    induction t with
    | nil =>
      intro j k hd hk hj
      obtain ⟨j, rfl⟩ : ∃ j', j = j' + 1 := ⟨j - 1, by omega⟩
      have : k = l.length := by have := congrArg List.length hd; simp at this; omega
      subst this
      simp only [spec_l05To_L1, lt_cast, Nat.lt_irrefl, decide_false, cond_false, idxFrom]; rfl
    | cons x t ih =>
      intro j k hd hk hj
      obtain ⟨j, rfl⟩ : ∃ j', j = j' + 1 := ⟨j - 1, by omega⟩
      obtain ⟨h2, h3, h4⟩ := drop_cons hd x
      have hx : l[k] = x := by simpa [List.getD, h2] using h3
      simp only [spec_l05To_L1, lt_cast, decide_eq_true h2, inR_true h2, Int.toNat_natCast, getD_at h2, hx, cond_true, wrap_succ h2 (by omega), text_eq, show (⟨#[116, 111]⟩ : ByteArray) = wTo from rfl]
      by_cases hc : x = wTo
      · have e2 : idxFrom pTo (x :: t) k = (k : Int) := by simp [idxFrom, pTo, hc]
        rw [e2, if_neg (by omega)]
        simp only [hc, decide_true, cond_true]
      · have e2 : idxFrom pTo (x :: t) k = idxFrom pTo t (k + 1) := by simp [idxFrom, pTo, hc]
        rw [e2]
        simp only [hc, decide_false, cond_false]
        exact ih j (k + 1) h4 (by omega) (by simp at hj; omega)
  exact this l n 0 rfl (by omega) (by omega)
def noStmt : T_Stmt := (0, (E0, ([], ([], noDdl))))
def finS (x : T_Stmt) (s : ByteArray) : T_Stmt × (Bool × Unit) := if cStmtText x = s then (x, (true, ())) else (noStmt, (false, ()))
theorem finS_bif (x : T_Stmt) (s : ByteArray) : (bif !(decide (cStmtText x = s)) then some (noStmt, (false, ())) else some (x, (true, ()))) = some (finS x s) := by
  unfold finS
  by_cases h : cStmtText x = s <;> simp [h]
theorem finS_bad {x : T_Stmt} {s : ByteArray} (h : cStmtText x ≠ s) : finS x s = (noStmt, (false, ())) := by simp [finS, h]
theorem stmtText_bad {x : T_Stmt} {s : ByteArray} (hs : s ≠ E0) (h : cStmtOk x = false) : cStmtText x ≠ s := by
  simp only [cStmtText, h]; exact fun e => hs e.symm
theorem stmtText_ok {x : T_Stmt} {s : ByteArray} (hs : s ≠ E0) (h : cStmtText x = s) : cStmtOk x = true := by
  cases hc : cStmtOk x with
  | true => rfl
  | false => exact absurd h (stmtText_bad hs hc)
theorem vTexts_noSp {l : T_ValS} (h : l.all vOk = true) : ∀ t ∈ cVTexts l, noSp t ∧ t ≠ wTo := by
  intro t ht
  obtain ⟨v, hv, rfl⟩ := List.mem_map.mp ht
  exact valText_noSp (List.all_eq_true.mp h v hv)
def tIns : ByteArray := ⟨#[105, 110, 115, 101, 114, 116]⟩
def tUpd : ByteArray := ⟨#[117, 112, 100, 97, 116, 101]⟩
def tDel : ByteArray := ⟨#[100, 101, 108, 101, 116, 101]⟩
def tClr : ByteArray := ⟨#[99, 108, 101, 97, 114]⟩
theorem noSp_ins : noSp tIns := by unfold noSp; decide
theorem noSp_upd : noSp tUpd := by unfold noSp; decide
theorem noSp_del : noSp tDel := by unfold noSp; decide
theorem noSp_to : noSp wTo := by unfold noSp; decide
theorem cut_eq {s : ByteArray} {L : List ByteArray} (h : cJoin L = s) (h0 : L ≠ []) (hL : ∀ w ∈ L, noSp w) : cCut s 32 = L := by rw [← h]; exact cut_join h0 hL
theorem cVals_iff {l : T_ValS} (h : cVals l = true) : l.all vOk = true ∧ l.length ≤ 8 := by
  simp only [cVals, Bool.and_eq_true, decide_eq_true_eq] at h
  exact ⟨h.2, h.1.2⟩
theorem ins_read {s : ByteArray} {R : List ByteArray → T_ValS} (hs : s ≠ E0) (h : cStmtText (1, ((cCut s 32).getD 1 E0, ([], (R ((cCut s 32).drop 2), noDdl)))) = s) :
    ∃ l : T_ValS, (cCut s 32).drop 2 = cVTexts l ∧ l.all vOk = true ∧ l.length ≤ 8 ∧ R ((cCut s 32).drop 2) = l := by
  have hok := stmtText_ok hs h
  generalize hl : R ((cCut s 32).drop 2) = l at h hok
  unfold cStmtText at h
  rw [if_pos hok, if_pos rfl] at h
  simp [cStmtOk] at hok
  obtain ⟨hk, h8⟩ := cVals_iff hok.2
  have := cut_eq h (by simp) (fun w hw => by
    rcases List.mem_append.mp hw with hw | hw
    · simp at hw
      rcases hw with rfl | rfl
      · exact noSp_ins
      · simpa using noSp_lower hok.1
    · exact (vTexts_noSp hk w hw).1)
  exact ⟨l, by rw [this]; rfl, hk, h8, rfl⟩
theorem del_read {s : ByteArray} {R : List ByteArray → T_ValS} (hs : s ≠ E0) (h : cStmtText (3, ((cCut s 32).getD 1 E0, (R ((cCut s 32).drop 2), ([], noDdl)))) = s) :
    ∃ l : T_ValS, (cCut s 32).drop 2 = cVTexts l ∧ l.all vOk = true ∧ l.length ≤ 8 ∧ R ((cCut s 32).drop 2) = l := by
  have hok := stmtText_ok hs h
  generalize hl : R ((cCut s 32).drop 2) = l at h hok
  unfold cStmtText at h
  rw [if_pos hok, if_neg (show ¬ (3 : Int) = 1 by decide), if_neg (show ¬ (3 : Int) = 2 by decide), if_pos rfl] at h
  simp [cStmtOk] at hok
  obtain ⟨hk, h8⟩ := cVals_iff hok.2
  have := cut_eq h (by simp) (fun w hw => by
    rcases List.mem_append.mp hw with hw | hw
    · simp at hw
      rcases hw with rfl | rfl
      · exact noSp_del
      · simpa using noSp_lower hok.1
    · exact (vTexts_noSp hk w hw).1)
  exact ⟨l, by rw [this]; rfl, hk, h8, rfl⟩
theorem idx_split {p : ByteArray → Bool} : ∀ (l m : List ByteArray) (x : ByteArray) (k : Nat), (∀ y ∈ l, p y = false) → p x = true → idxFrom p (l ++ x :: m) k = ((k + l.length : Nat) : Int)
  | [], m, x, k, _, hx => by simp [idxFrom, hx]
  | y :: l, m, x, k, h, hx => by
    simp only [List.cons_append, idxFrom, h y (List.mem_cons_self ..), if_neg (show ¬ (false = true) by decide), List.length_cons]
    rw [idx_split l m x (k + 1) (fun z hz => h z (List.mem_cons_of_mem _ hz)) hx]
    omega
theorem upd_read {s : ByteArray} {R : List ByteArray → T_ValS} {i : Nat} (hs : s ≠ E0) (hi : idx pTo ((cCut s 32).drop 2) = (i : Int))
    (h : cStmtText (2, ((cCut s 32).getD 1 E0, (R (((cCut s 32).drop 2).take i), (R (((cCut s 32).drop 2).drop (i + 1)), noDdl)))) = s) :
    ∃ k v : T_ValS, ((cCut s 32).drop 2).take i = cVTexts k ∧ ((cCut s 32).drop 2).drop (i + 1) = cVTexts v ∧ k.all vOk = true ∧ k.length ≤ 8 ∧ v.all vOk = true ∧ v.length ≤ 8 ∧ R (((cCut s 32).drop 2).take i) = k ∧ R (((cCut s 32).drop 2).drop (i + 1)) = v := by
  have hok := stmtText_ok hs h
  generalize hl : R (((cCut s 32).drop 2).take i) = k at h hok
  generalize hm : R (((cCut s 32).drop 2).drop (i + 1)) = v at h hok
  unfold cStmtText at h
  rw [if_pos hok, if_neg (show ¬ (2 : Int) = 1 by decide), if_pos rfl] at h
  simp [cStmtOk] at hok
  obtain ⟨hk, h8⟩ := cVals_iff hok.2.1
  obtain ⟨hv, v8⟩ := cVals_iff hok.2.2
  have hc := cut_eq h (by simp) (fun w hw => by
    rcases List.mem_append.mp hw with hw | hw
    · rcases List.mem_append.mp hw with hw | hw
      · rcases List.mem_append.mp hw with hw | hw
        · simp at hw
          rcases hw with rfl | rfl
          · exact noSp_upd
          · simpa using noSp_lower hok.1
        · exact (vTexts_noSp hk w hw).1
      · simp at hw; subst hw; exact noSp_to
    · exact (vTexts_noSp hv w hw).1)
  have hd : (cCut s 32).drop 2 = cVTexts k ++ wTo :: cVTexts v := by
    rw [hc]; simp; rfl
  have hlen : i = (cVTexts k).length := by
    rw [hd] at hi
    have := idx_split (p := pTo) (cVTexts k) (cVTexts v) wTo 0 (fun y hy => decide_eq_false (vTexts_noSp hk y hy).2) (decide_eq_true rfl)
    unfold idx at hi
    rw [this] at hi; omega
  refine ⟨k, v, ?_, ?_, hk, h8, hv, v8, rfl, rfl⟩
  · rw [hd, hlen, List.take_left]
  · rw [hd, hlen, ← List.drop_drop, List.drop_left]; rfl
theorem ins_fin {s : ByteArray} (hs : s ≠ E0) (hz : s.size ≤ 1048576) (T : ByteArray) (hT : T = (cCut s 32).getD 1 E0) : finS (1, (T, ([], (valsI ((cCut s 32).drop 2), noDdl)))) s = finS (1, (T, ([], (valsS ((cCut s 32).drop 2), noDdl)))) s := by
  subst hT
  have small : ∀ l : T_ValS, (cCut s 32).drop 2 = cVTexts l → ∀ t ∈ cVTexts l, t.size ≤ 1048576 := fun l hl t ht => (wsOk_cut 32 hz).2 t (List.mem_of_mem_drop (by rw [hl]; exact ht))
  by_cases h1 : cStmtText (1, ((cCut s 32).getD 1 E0, ([], (valsI ((cCut s 32).drop 2), noDdl)))) = s
  · obtain ⟨l, e, a, b, c⟩ := ins_read hs h1
    rw [c, e, reads_S l a b (small l e)]
  · by_cases h2 : cStmtText (1, ((cCut s 32).getD 1 E0, ([], (valsS ((cCut s 32).drop 2), noDdl)))) = s
    · obtain ⟨l, e, a, b, c⟩ := ins_read hs h2
      rw [c, e, reads_I l a b (small l e)]
    · rw [finS_bad h1, finS_bad h2]
theorem del_fin {s : ByteArray} (hs : s ≠ E0) (hz : s.size ≤ 1048576) (T : ByteArray) (hT : T = (cCut s 32).getD 1 E0) : finS (3, (T, (valsI ((cCut s 32).drop 2), ([], noDdl)))) s = finS (3, (T, (valsS ((cCut s 32).drop 2), ([], noDdl)))) s := by
  subst hT
  have small : ∀ l : T_ValS, (cCut s 32).drop 2 = cVTexts l → ∀ t ∈ cVTexts l, t.size ≤ 1048576 := fun l hl t ht => (wsOk_cut 32 hz).2 t (List.mem_of_mem_drop (by rw [hl]; exact ht))
  by_cases h1 : cStmtText (3, ((cCut s 32).getD 1 E0, (valsI ((cCut s 32).drop 2), ([], noDdl)))) = s
  · obtain ⟨l, e, a, b, c⟩ := del_read hs h1
    rw [c, e, reads_S l a b (small l e)]
  · by_cases h2 : cStmtText (3, ((cCut s 32).getD 1 E0, (valsS ((cCut s 32).drop 2), ([], noDdl)))) = s
    · obtain ⟨l, e, a, b, c⟩ := del_read hs h2
      rw [c, e, reads_I l a b (small l e)]
    · rw [finS_bad h1, finS_bad h2]
theorem upd_fin {s : ByteArray} {i : Nat} (hs : s ≠ E0) (hz : s.size ≤ 1048576) (hi : idx pTo ((cCut s 32).drop 2) = (i : Int)) (T : ByteArray) (hT : T = (cCut s 32).getD 1 E0) :
    finS (2, (T, (valsI (((cCut s 32).drop 2).take i), (valsI (((cCut s 32).drop 2).drop (i + 1)), noDdl)))) s = finS (2, (T, (valsS (((cCut s 32).drop 2).take i), (valsS (((cCut s 32).drop 2).drop (i + 1)), noDdl)))) s := by
  subst hT
  have small : ∀ t ∈ (cCut s 32).drop 2, t.size ≤ 1048576 := fun t ht => (wsOk_cut 32 hz).2 t (List.mem_of_mem_drop ht)
  by_cases h1 : cStmtText (2, ((cCut s 32).getD 1 E0, (valsI (((cCut s 32).drop 2).take i), (valsI (((cCut s 32).drop 2).drop (i + 1)), noDdl)))) = s
  · obtain ⟨k, v, e1, e2, a, b, c, d, f, g⟩ := upd_read hs hi h1
    have s1 : ∀ t ∈ cVTexts k, t.size ≤ 1048576 := fun t ht => small t (List.mem_of_mem_take (by rw [e1]; exact ht))
    have s2 : ∀ t ∈ cVTexts v, t.size ≤ 1048576 := fun t ht => small t (List.mem_of_mem_drop (by rw [e2]; exact ht))
    rw [f, g, e1, e2, reads_S k a b s1, reads_S v c d s2]
  · by_cases h2 : cStmtText (2, ((cCut s 32).getD 1 E0, (valsS (((cCut s 32).drop 2).take i), (valsS (((cCut s 32).drop 2).drop (i + 1)), noDdl)))) = s
    · obtain ⟨k, v, e1, e2, a, b, c, d, f, g⟩ := upd_read hs hi h2
      have s1 : ∀ t ∈ cVTexts k, t.size ≤ 1048576 := fun t ht => small t (List.mem_of_mem_take (by rw [e1]; exact ht))
      have s2 : ∀ t ∈ cVTexts v, t.size ≤ 1048576 := fun t ht => small t (List.mem_of_mem_drop (by rw [e2]; exact ht))
      rw [f, g, e1, e2, reads_I k a b s1, reads_I v c d s2]
    · rw [finS_bad h1, finS_bad h2]
theorem fin_cases (d : T_Ddl) (s : ByteArray) : (fin d s = (d, (true, ())) ∧ cDdlText d = s) ∨ fin d s = (noDdl, (false, ())) := by
  unfold fin
  split
  · rename_i h; exact .inl ⟨rfl, h⟩
  · exact .inr rfl
theorem ddl_cases (s : ByteArray) : (∃ d : T_Ddl, cTextDdl s = (d, (true, ())) ∧ cDdlText d = s ∧ d.2.1 = (cCut s 32).getD 1 E0 ∧ ¬ (cCut s 32).length < 2 ∧ ((cCut s 32).getD 0 E0 = tCreate ∨ (cCut s 32).getD 0 E0 = tDrop ∨ (cCut s 32).getD 0 E0 = tAdd ∨ (cCut s 32).getD 0 E0 = tOut ∨ (cCut s 32).getD 0 E0 = tName)) ∨ cTextDdl s = (noDdl, (false, ())) := by
  unfold cTextDdl
  split
  · exact .inr rfl
  · rename_i hl
    split
    · rename_i h; rcases fin_cases (1, ((cCut s 32).getD 1 E0, ((crtW tyS ((cCut s 32).drop 2)).1, ((crtW tyS ((cCut s 32).drop 2)).2, (E0, E0))))) s with ⟨a, b⟩ | a
      · exact .inl ⟨_, a, b, rfl, hl, .inl h⟩
      · exact .inr a
    · split
      · rename_i h; rcases fin_cases (2, ((cCut s 32).getD 1 E0, ([], ([], (E0, E0))))) s with ⟨a, b⟩ | a
        · exact .inl ⟨_, a, b, rfl, hl, .inr (.inl h)⟩
        · exact .inr a
      · split
        · rename_i h; rcases fin_cases (3, ((cCut s 32).getD 1 E0, ([colW tyS ((cCut s 32).drop 2)], ([], (E0, E0))))) s with ⟨a, b⟩ | a
          · exact .inl ⟨_, a, b, rfl, hl, .inr (.inr (.inl h))⟩
          · exact .inr a
        · split
          · rename_i h; rcases fin_cases (4, ((cCut s 32).getD 1 E0, ([], ([], ((cCut s 32).getD 2 E0, E0))))) s with ⟨a, b⟩ | a
            · exact .inl ⟨_, a, b, rfl, hl, .inr (.inr (.inr (.inl h.1)))⟩
            · exact .inr a
          · split
            · rename_i h; rcases fin_cases (5, ((cCut s 32).getD 1 E0, ([], ([], ((cCut s 32).getD 2 E0, (cCut s 32).getD 3 E0))))) s with ⟨a, b⟩ | a
              · exact .inl ⟨_, a, b, rfl, hl, .inr (.inr (.inr (.inr h.1)))⟩
              · exact .inr a
            · exact .inr rfl
noncomputable def cTextStmt (s : ByteArray) : T_Stmt × (Bool × Unit) := if (cCut s 32).length < 2 then (noStmt, (false, ())) else
  if (cCut s 32).getD 0 E0 = tIns then finS (1, ((cCut s 32).getD 1 E0, ([], (valsS ((cCut s 32).drop 2), noDdl)))) s else
  if (cCut s 32).getD 0 E0 = tUpd then (if idx pTo ((cCut s 32).drop 2) < 0 then (noStmt, (false, ())) else finS (2, ((cCut s 32).getD 1 E0, (valsS (((cCut s 32).drop 2).take (idx pTo ((cCut s 32).drop 2)).toNat), (valsS (((cCut s 32).drop 2).drop ((idx pTo ((cCut s 32).drop 2)).toNat + 1)), noDdl)))) s) else
  if (cCut s 32).getD 0 E0 = tDel then finS (3, ((cCut s 32).getD 1 E0, (valsS ((cCut s 32).drop 2), ([], noDdl)))) s else
  if (cCut s 32).getD 0 E0 = tClr then finS (4, ((cCut s 32).getD 1 E0, ([], ([], noDdl)))) s else
  if (cTextDdl s).2.1 = true then ((5, ((cTextDdl s).1.2.1, ([], ([], (cTextDdl s).1)))), (true, ())) else (noStmt, (false, ()))
theorem index_to : EV fun n => ∀ l : List ByteArray, l.length ≤ 1048577 → slices_Index_string_string n l wTo = some (idx pTo l) := (EV.gt 1048580).up fun m hn l hl => by
  rw [slices_Index_string_string]
  refine find_loop pTo l (fun j k => slices_Index_string_string_L1 m j l wTo (l.length : Int) (k : Int)) (fun j => by simp only [slices_Index_string_string_L1, lt_cast, Nat.lt_irrefl, decide_false, cond_false]) (fun j k hk => ?_) l m 0 rfl (by omega) (by omega)
  simp only [slices_Index_string_string_L1, lt_cast, decide_eq_true hk, inR_true hk, Int.toNat_natCast, getD_at hk, cond_true, wrap_succ hk (by omega), text_eq, pTo]
  rw [bif_step']
  by_cases h : l[k] = wTo
  · simp [h]
  · simp [h, show ¬ (wTo = l[k]) from fun e => h e.symm]
theorem impl_TextStmt_ok : EV fun n => ∀ s : ByteArray, s.size ≤ 1048576 → impl_TextStmt n s = some (cTextStmt s) := (impl_Words_ok.and (impl_TextDdl_ok.and (impl_valsOf_ok.and (impl_StmtText_ok.and index_to)))).up fun n ⟨h1, h2, h3, hD, hn⟩ s hs => by
  have hw := wsOk_cut 32 hs
  have hne := @cut_ne s 32
  have hins := fun h0 => ins_fin (s := s) h0 hs _ rfl
  have hdel := fun h0 => del_fin (s := s) h0 hs _ rfl
  have hupd := fun (i : Nat) h0 hi => upd_fin (s := s) (i := i) h0 hs hi _ rfl
  have hddl := ddl_cases s
  simp only [impl_TextStmt, h1 s hs, h2 s hs, Option.bind_some, cTextStmt]
  generalize cCut s 32 = w at hw hne hins hdel hupd hddl ⊢
  have n1 : tIns ≠ tCreate ∧ tIns ≠ tDrop ∧ tIns ≠ tAdd ∧ tIns ≠ tOut ∧ tIns ≠ tName := by decide
  have n2 : tUpd ≠ tCreate ∧ tUpd ≠ tDrop ∧ tUpd ≠ tAdd ∧ tUpd ≠ tOut ∧ tUpd ≠ tName := by decide
  have n3 : tDel ≠ tCreate ∧ tDel ≠ tDrop ∧ tDel ≠ tAdd ∧ tDel ≠ tOut ∧ tDel ≠ tName := by decide
  have n4 : tClr ≠ tCreate ∧ tClr ≠ tDrop ∧ tClr ≠ tAdd ∧ tClr ≠ tOut ∧ tClr ≠ tName := by decide
  have notd : ∀ v : ByteArray, w.getD 0 E0 = v → (v ≠ tCreate ∧ v ≠ tDrop ∧ v ≠ tAdd ∧ v ≠ tOut ∧ v ≠ tName) → cTextDdl s = (noDdl, (false, ())) := by
    intro v hv ⟨a, b, c, d, e⟩
    rcases hddl with ⟨_, _, _, _, _, h⟩ | h
    · rw [hv] at h
      rcases h with h | h | h | h | h
      · exact absurd h a
      · exact absurd h b
      · exact absurd h c
      · exact absurd h d
      · exact absurd h e
    · exact h
  by_cases hl : w.length < 2
  · have hz : cTextDdl s = (noDdl, (false, ())) := by
      rcases hddl with ⟨_, _, _, _, h, _⟩ | h
      · exact absurd hl h
      · exact h
    have e0 : decide ((w.length : Int) < (2 : Int)) = true := decide_eq_true (by omega)
    rw [hz]
    simp only [cond_false, e0, cond_true, if_pos hl]; rfl
  · have hs0 := hne hl
    have hl1 := hw.1
    have hins := hins hs0
    have hdel := hdel hs0
    have e0 : decide ((w.length : Int) < (2 : Int)) = false := decide_eq_false (by omega)
    have e1 : inR (0 : Int) w.length = true := inR_true (k := 0) (by omega)
    have e2 : inR (1 : Int) w.length = true := inR_true (k := 1) (by omega)
    have e3 : decide (0 ≤ (2 : Int) ∧ (2 : Int) ≤ ((w.length : Nat) : Int) ∧ ((w.length : Nat) : Int) ≤ (w.length : Int)) = true := decide_eq_true ⟨by omega, by omega, by omega⟩
    have zv : sm_ValS 1048576 [] := ⟨by simp, by simp⟩
    have d2 := hw.drop 2
    have dl : (w.drop 2).length ≤ 1048575 := by simp; omega
    have DD : ∀ (k : Int) (a b : T_ValS), sm_ValS 1048576 a → sm_ValS 1048576 b → impl_StmtText n k (w.getD 1 E0) a b 0 E0 [] [] E0 E0 = some (cStmtText (k, (w.getD 1 E0, (a, (b, noDdl))))) := fun k a b g1 g2 => hD (k, (w.getD 1 E0, (a, (b, noDdl)))) ⟨hw.get 1, g1, g2, noDdl_sm⟩
    have V := h3 (w.drop 2) d2
    have Vs := valsI_sm d2 (by omega)
    have hI := hn (w.drop 2) d2.1
    have D0 := DD 0 [] [] zv zv
    have bad0 : cStmtText (0, (w.getD 1 E0, ([], ([], noDdl)))) ≠ s := stmtText_bad hs0 (by simp [cStmtOk])
    by_cases c1 : w.getD 0 E0 = tIns
    · rw [notd _ c1 n1]
      have D1 := DD 1 [] _ zv Vs
      simp only [cond_false, e0, e1, e2, e3, cond_true, if_neg hl, if_pos c1, text_eq, sliceEq, show (0 : Int).toNat = 0 from rfl, show (1 : Int).toNat = 1 from rfl, show (2 : Int).toNat = 2 from rfl, show (⟨#[]⟩ : ByteArray) = E0 from rfl, show (⟨#[105, 110, 115, 101, 114, 116]⟩ : ByteArray) = tIns from rfl, decide_eq_true c1, V, Option.bind_some, D1]
      rw [← hins]; exact finS_bif _ _
    · by_cases c2 : w.getD 0 E0 = tUpd
      · rw [notd _ c2 n2]
        have c1' : decide (tUpd = tIns) = false := by decide
        simp only [cond_false, e0, e1, e2, e3, cond_true, if_neg hl, if_neg c1, if_pos c2, text_eq, sliceEq, show (0 : Int).toNat = 0 from rfl, show (1 : Int).toNat = 1 from rfl, show (2 : Int).toNat = 2 from rfl, show (⟨#[]⟩ : ByteArray) = E0 from rfl, show (⟨#[105, 110, 115, 101, 114, 116]⟩ : ByteArray) = tIns from rfl, show (⟨#[117, 112, 100, 97, 116, 101]⟩ : ByteArray) = tUpd from rfl, show (⟨#[116, 111]⟩ : ByteArray) = wTo from rfl, decide_eq_false c1, decide_eq_true c2, hI, Option.bind_some]
        by_cases hc : idx pTo (w.drop 2) < 0
        · have q0 : decide ((0 : Int) ≤ idx pTo (w.drop 2)) = false := decide_eq_false (by omega)
          have D2 := DD 2 [] [] zv zv
          have bad2 : cStmtText (2, (w.getD 1 E0, ([], ([], noDdl)))) ≠ s := stmtText_bad hs0 (by simp [cStmtOk, cVals])
          simp only [q0, cond_false, if_pos hc, D2, Option.bind_some, decide_eq_false bad2, Bool.not_false, cond_true]; rfl
        · obtain ⟨g1, g2⟩ := idx_lt pTo (w.drop 2)
          obtain ⟨e, he⟩ := Int.eq_ofNat_of_zero_le (show 0 ≤ idx pTo (w.drop 2) by omega)
          have hu := hupd e hs0 he
          rw [he] at hc g2 ⊢
          simp only [List.length_drop] at g2 dl
          have q0 : decide ((0 : Int) ≤ (e : Int)) = true := decide_eq_true (by omega)
          have q1 : decide (0 ≤ ((0 : Nat) : Int) ∧ ((0 : Nat) : Int) ≤ (e : Int) ∧ (e : Int) ≤ ((w.length - 2 : Nat) : Int)) = true := decide_eq_true ⟨by omega, by omega, by omega⟩
          have q3 : IntKind.wrap .i64 ((e : Int) + (1 : Int)) = ((e + 1 : Nat) : Int) := wrap_succ (Nat.lt_succ_self e) (by omega)
          have q4 : decide (0 ≤ ((e + 1 : Nat) : Int) ∧ ((e + 1 : Nat) : Int) ≤ ((w.length - 2 : Nat) : Int) ∧ ((w.length - 2 : Nat) : Int) ≤ ((w.length - 2 : Nat) : Int)) = true := decide_eq_true ⟨by omega, by omega, by omega⟩
          have t1 : (w.drop (2 + 0)).take (e - 0) = (w.drop 2).take e := rfl
          have t2 : (w.drop (2 + (e + 1))).take (w.length - 2 - (e + 1)) = (w.drop 2).drop (e + 1) := by
            rw [List.take_of_length_le (by simp; omega), List.drop_drop]
          have V1 := h3 _ (d2.take e)
          have V2 := h3 _ (d2.drop (e + 1))
          have D2 := DD 2 _ _ (valsI_sm (d2.take e) (by simp; omega)) (valsI_sm (d2.drop (e + 1)) (by simp; omega))
          simp only [q0, q1, q3, q4, cond_true, if_neg hc, t1, t2, V1, V2, D2, Option.bind_some, Int.toNat_natCast]
          rw [← hu]; exact finS_bif _ _
      · by_cases c3 : w.getD 0 E0 = tDel
        · rw [notd _ c3 n3]
          have D3 := DD 3 _ [] Vs zv
          simp only [cond_false, e0, e1, e2, e3, cond_true, if_neg hl, if_neg c1, if_neg c2, if_pos c3, text_eq, sliceEq, show (0 : Int).toNat = 0 from rfl, show (1 : Int).toNat = 1 from rfl, show (2 : Int).toNat = 2 from rfl, show (⟨#[]⟩ : ByteArray) = E0 from rfl, show (⟨#[105, 110, 115, 101, 114, 116]⟩ : ByteArray) = tIns from rfl, show (⟨#[117, 112, 100, 97, 116, 101]⟩ : ByteArray) = tUpd from rfl, show (⟨#[100, 101, 108, 101, 116, 101]⟩ : ByteArray) = tDel from rfl, decide_eq_false c1, decide_eq_false c2, decide_eq_true c3, V, Option.bind_some, D3]
          rw [← hdel]; exact finS_bif _ _
        · by_cases c4 : w.getD 0 E0 = tClr
          · rw [notd _ c4 n4]
            have D4 := DD 4 [] [] zv zv
            simp only [cond_false, e0, e1, e2, e3, cond_true, if_neg hl, if_neg c1, if_neg c2, if_neg c3, if_pos c4, text_eq, sliceEq, show (0 : Int).toNat = 0 from rfl, show (1 : Int).toNat = 1 from rfl, show (2 : Int).toNat = 2 from rfl, show (⟨#[]⟩ : ByteArray) = E0 from rfl, show (⟨#[105, 110, 115, 101, 114, 116]⟩ : ByteArray) = tIns from rfl, show (⟨#[117, 112, 100, 97, 116, 101]⟩ : ByteArray) = tUpd from rfl, show (⟨#[100, 101, 108, 101, 116, 101]⟩ : ByteArray) = tDel from rfl, show (⟨#[99, 108, 101, 97, 114]⟩ : ByteArray) = tClr from rfl, decide_eq_false c1, decide_eq_false c2, decide_eq_false c3, decide_eq_true c4, Option.bind_some, D4]
            exact finS_bif _ _
          · rw [if_neg hl, if_neg c1, if_neg c2, if_neg c3, if_neg c4]
            rcases hddl with ⟨d, h, _⟩ | h
            · rw [h]; rfl
            · rw [h]
              simp only [cond_false, e0, e1, e2, e3, cond_true, text_eq, sliceEq, show (0 : Int).toNat = 0 from rfl, show (1 : Int).toNat = 1 from rfl, show (2 : Int).toNat = 2 from rfl, show (⟨#[]⟩ : ByteArray) = E0 from rfl, show (⟨#[105, 110, 115, 101, 114, 116]⟩ : ByteArray) = tIns from rfl, show (⟨#[117, 112, 100, 97, 116, 101]⟩ : ByteArray) = tUpd from rfl, show (⟨#[100, 101, 108, 101, 116, 101]⟩ : ByteArray) = tDel from rfl, show (⟨#[99, 108, 101, 97, 114]⟩ : ByteArray) = tClr from rfl, decide_eq_false c1, decide_eq_false c2, decide_eq_false c3, decide_eq_false c4, Option.bind_some, D0, decide_eq_false bad0, Bool.not_false]; rfl
theorem spec_TextStmt_ok : EV fun n => ∀ s : ByteArray, s.size ≤ 1048576 → spec_TextStmt n s = some (cTextStmt s) := (spec_Words_ok.and (spec_TextDdl_ok.and (spec_l05Read_ok.and (spec_StmtText_ok.and spec_l05To_ok)))).up fun n ⟨h1, h2, h3, hD, hn⟩ s hs => by
  have hw := wsOk_cut 32 hs
  have hne := @cut_ne s 32
  have hins := fun h0 => ins_fin (s := s) h0 hs _ rfl
  have hdel := fun h0 => del_fin (s := s) h0 hs _ rfl
  have hupd := fun (i : Nat) h0 hi => upd_fin (s := s) (i := i) h0 hs hi _ rfl
  have hddl := ddl_cases s
  simp only [spec_TextStmt, h1 s hs, h2 s hs, Option.bind_some, cTextStmt]
  generalize cCut s 32 = w at hw hne hins hdel hupd hddl ⊢
  have n1 : tIns ≠ tCreate ∧ tIns ≠ tDrop ∧ tIns ≠ tAdd ∧ tIns ≠ tOut ∧ tIns ≠ tName := by decide
  have n2 : tUpd ≠ tCreate ∧ tUpd ≠ tDrop ∧ tUpd ≠ tAdd ∧ tUpd ≠ tOut ∧ tUpd ≠ tName := by decide
  have n3 : tDel ≠ tCreate ∧ tDel ≠ tDrop ∧ tDel ≠ tAdd ∧ tDel ≠ tOut ∧ tDel ≠ tName := by decide
  have n4 : tClr ≠ tCreate ∧ tClr ≠ tDrop ∧ tClr ≠ tAdd ∧ tClr ≠ tOut ∧ tClr ≠ tName := by decide
  have notd : ∀ v : ByteArray, w.getD 0 E0 = v → (v ≠ tCreate ∧ v ≠ tDrop ∧ v ≠ tAdd ∧ v ≠ tOut ∧ v ≠ tName) → cTextDdl s = (noDdl, (false, ())) := by
    intro v hv ⟨a, b, c, d, e⟩
    rcases hddl with ⟨_, _, _, _, _, h⟩ | h
    · rw [hv] at h
      rcases h with h | h | h | h | h
      · exact absurd h a
      · exact absurd h b
      · exact absurd h c
      · exact absurd h d
      · exact absurd h e
    · exact h
  by_cases hl : w.length < 2
  · have hz : cTextDdl s = (noDdl, (false, ())) := by
      rcases hddl with ⟨_, _, _, _, h, _⟩ | h
      · exact absurd hl h
      · exact h
    have e0 : decide ((w.length : Int) < (2 : Int)) = true := decide_eq_true (by omega)
    simp only [e0, cond_true, if_pos hl]; rfl
  · have hs0 := hne hl
    have hl1 := hw.1
    have hins := hins hs0
    have hdel := hdel hs0
    have e0 : decide ((w.length : Int) < (2 : Int)) = false := decide_eq_false (by omega)
    have e1 : inR (0 : Int) w.length = true := inR_true (k := 0) (by omega)
    have e2 : inR (1 : Int) w.length = true := inR_true (k := 1) (by omega)
    have e3 : decide (0 ≤ (2 : Int) ∧ (2 : Int) ≤ ((w.length : Nat) : Int) ∧ ((w.length : Nat) : Int) ≤ (w.length : Int)) = true := decide_eq_true ⟨by omega, by omega, by omega⟩
    have zv : sm_ValS 1048576 [] := ⟨by simp, by simp⟩
    have d2 := hw.drop 2
    have dl : (w.drop 2).length ≤ 1048575 := by simp; omega
    have DD : ∀ (k : Int) (a b : T_ValS), sm_ValS 1048576 a → sm_ValS 1048576 b → spec_StmtText n k (w.getD 1 E0) a b 0 E0 [] [] E0 E0 = some (cStmtText (k, (w.getD 1 E0, (a, (b, noDdl))))) := fun k a b g1 g2 => hD (k, (w.getD 1 E0, (a, (b, noDdl)))) ⟨hw.get 1, g1, g2, noDdl_sm⟩
    have V := h3 (w.drop 2) d2
    have Vs := valsS_sm d2
    have hI := hn (w.drop 2) d2.1
    have D0 := DD 0 [] [] zv zv
    have bad0 : cStmtText (0, (w.getD 1 E0, ([], ([], noDdl)))) ≠ s := stmtText_bad hs0 (by simp [cStmtOk])
    by_cases c1 : w.getD 0 E0 = tIns
    · have D1 := DD 1 [] _ zv Vs
      simp only [cond_false, e0, e1, e2, e3, cond_true, if_neg hl, if_pos c1, text_eq, sliceEq, show (0 : Int).toNat = 0 from rfl, show (1 : Int).toNat = 1 from rfl, show (2 : Int).toNat = 2 from rfl, show (⟨#[]⟩ : ByteArray) = E0 from rfl, show (⟨#[105, 110, 115, 101, 114, 116]⟩ : ByteArray) = tIns from rfl, decide_eq_true c1, V, hI, Option.bind_some, D1]
      exact finS_bif _ _
    · by_cases c2 : w.getD 0 E0 = tUpd
      · have c1' : decide (tUpd = tIns) = false := by decide
        simp only [cond_false, e0, e1, e2, e3, cond_true, if_neg hl, if_neg c1, if_pos c2, text_eq, sliceEq, show (0 : Int).toNat = 0 from rfl, show (1 : Int).toNat = 1 from rfl, show (2 : Int).toNat = 2 from rfl, show (⟨#[]⟩ : ByteArray) = E0 from rfl, show (⟨#[105, 110, 115, 101, 114, 116]⟩ : ByteArray) = tIns from rfl, show (⟨#[117, 112, 100, 97, 116, 101]⟩ : ByteArray) = tUpd from rfl, show (⟨#[116, 111]⟩ : ByteArray) = wTo from rfl, decide_eq_false c1, decide_eq_true c2, hI, Option.bind_some]
        by_cases hc : idx pTo (w.drop 2) < 0
        · have D2 := DD 2 (valsS (w.drop 2)) [] Vs zv
          have bad2 : cStmtText (2, (w.getD 1 E0, (valsS (w.drop 2), ([], noDdl)))) ≠ s := stmtText_bad hs0 (by simp [cStmtOk, cVals])
          have q1 : decide (0 ≤ ((0 : Nat) : Int) ∧ ((0 : Nat) : Int) ≤ ((w.length - 2 : Nat) : Int) ∧ ((w.length - 2 : Nat) : Int) ≤ ((w.length - 2 : Nat) : Int)) = true := decide_eq_true ⟨by omega, by omega, by omega⟩
          have q2 : decide (((w.length - 2 : Nat) : Int) < ((w.length - 2 : Nat) : Int)) = false := decide_eq_false (by omega)
          have t1 : (w.drop (2 + 0)).take (w.length - 2 - 0) = w.drop 2 := List.take_of_length_le (by simp)
          simp only [if_pos hc, List.length_drop, Int.toNat_natCast, q1, q2, t1, V, cond_true, cond_false, D2, Option.bind_some, decide_eq_false bad2, Bool.not_false]; rfl
        · obtain ⟨g1, g2⟩ := idx_lt pTo (w.drop 2)
          obtain ⟨e, he⟩ := Int.eq_ofNat_of_zero_le (show 0 ≤ idx pTo (w.drop 2) by omega)
          have hu := hupd e hs0 he
          rw [he] at hc g2 ⊢
          simp only [List.length_drop] at g2 dl
          have q0 : decide ((0 : Int) ≤ (e : Int)) = true := decide_eq_true (by omega)
          have q1 : decide (0 ≤ ((0 : Nat) : Int) ∧ ((0 : Nat) : Int) ≤ (e : Int) ∧ (e : Int) ≤ ((w.length - 2 : Nat) : Int)) = true := decide_eq_true ⟨by omega, by omega, by omega⟩
          have q3 : IntKind.wrap .i64 ((e : Int) + (1 : Int)) = ((e + 1 : Nat) : Int) := wrap_succ (Nat.lt_succ_self e) (by omega)
          have q4 : decide (0 ≤ ((e + 1 : Nat) : Int) ∧ ((e + 1 : Nat) : Int) ≤ ((w.length - 2 : Nat) : Int) ∧ ((w.length - 2 : Nat) : Int) ≤ ((w.length - 2 : Nat) : Int)) = true := decide_eq_true ⟨by omega, by omega, by omega⟩
          have t1 : (w.drop (2 + 0)).take (e - 0) = (w.drop 2).take e := rfl
          have t2 : (w.drop (2 + (e + 1))).take (w.length - 2 - (e + 1)) = (w.drop 2).drop (e + 1) := by
            rw [List.take_of_length_le (by simp; omega), List.drop_drop]
          have V1 := h3 _ (d2.take e)
          have V2 := h3 _ (d2.drop (e + 1))
          have D2 := DD 2 _ _ (valsS_sm (d2.take e)) (valsS_sm (d2.drop (e + 1)))
          have q5 : decide ((e : Int) < ((w.length - 2 : Nat) : Int)) = true := decide_eq_true (by omega)
          simp only [q1, q3, q4, q5, cond_true, if_neg hc, t1, t2, V1, V2, D2, Option.bind_some, Int.toNat_natCast]
          exact finS_bif _ _
      · by_cases c3 : w.getD 0 E0 = tDel
        · have D3 := DD 3 _ [] Vs zv
          simp only [cond_false, e0, e1, e2, e3, cond_true, if_neg hl, if_neg c1, if_neg c2, if_pos c3, text_eq, sliceEq, show (0 : Int).toNat = 0 from rfl, show (1 : Int).toNat = 1 from rfl, show (2 : Int).toNat = 2 from rfl, show (⟨#[]⟩ : ByteArray) = E0 from rfl, show (⟨#[105, 110, 115, 101, 114, 116]⟩ : ByteArray) = tIns from rfl, show (⟨#[117, 112, 100, 97, 116, 101]⟩ : ByteArray) = tUpd from rfl, show (⟨#[100, 101, 108, 101, 116, 101]⟩ : ByteArray) = tDel from rfl, decide_eq_false c1, decide_eq_false c2, decide_eq_true c3, V, hI, Option.bind_some, D3]
          exact finS_bif _ _
        · by_cases c4 : w.getD 0 E0 = tClr
          · have D4 := DD 4 [] [] zv zv
            simp only [cond_false, e0, e1, e2, e3, cond_true, if_neg hl, if_neg c1, if_neg c2, if_neg c3, if_pos c4, text_eq, sliceEq, show (0 : Int).toNat = 0 from rfl, show (1 : Int).toNat = 1 from rfl, show (2 : Int).toNat = 2 from rfl, show (⟨#[]⟩ : ByteArray) = E0 from rfl, show (⟨#[105, 110, 115, 101, 114, 116]⟩ : ByteArray) = tIns from rfl, show (⟨#[117, 112, 100, 97, 116, 101]⟩ : ByteArray) = tUpd from rfl, show (⟨#[100, 101, 108, 101, 116, 101]⟩ : ByteArray) = tDel from rfl, show (⟨#[99, 108, 101, 97, 114]⟩ : ByteArray) = tClr from rfl, decide_eq_false c1, decide_eq_false c2, decide_eq_false c3, decide_eq_true c4, hI, Option.bind_some, D4]
            exact finS_bif _ _
          · rw [if_neg hl, if_neg c1, if_neg c2, if_neg c3, if_neg c4]
            have D5 := fun (d : T_Ddl) (hd : sm_Ddl 1048576 d) => hD (5, (w.getD 1 E0, ([], ([], d)))) ⟨hw.get 1, zv, zv, hd⟩
            have hsm := cTextDdl_sm hs
            rcases hddl with ⟨d, h, ht, h1', _⟩ | h
            · rw [h] at hsm ⊢
              have D5 := D5 d hsm
              dsimp only at D5
              have hok : cDdlOk d = true := by
                cases hc : cDdlOk d with
                | true => rfl
                | false => exact absurd ht (ddlText_bad hs0 hc)
              have hx : cStmtText (5, (w.getD 1 E0, ([], ([], d)))) = s := by
                have h5 : cStmtOk (5, (w.getD 1 E0, ([], ([], d)))) = true := by simp [cStmtOk, hok, h1']
                unfold cStmtText
                rw [if_pos h5]
                exact ht
              simp only [cond_false, e0, e1, e2, e3, cond_true, text_eq, sliceEq, show (0 : Int).toNat = 0 from rfl, show (1 : Int).toNat = 1 from rfl, show (2 : Int).toNat = 2 from rfl, show (⟨#[]⟩ : ByteArray) = E0 from rfl, show (⟨#[105, 110, 115, 101, 114, 116]⟩ : ByteArray) = tIns from rfl, show (⟨#[117, 112, 100, 97, 116, 101]⟩ : ByteArray) = tUpd from rfl, show (⟨#[100, 101, 108, 101, 116, 101]⟩ : ByteArray) = tDel from rfl, show (⟨#[99, 108, 101, 97, 114]⟩ : ByteArray) = tClr from rfl, decide_eq_false c1, decide_eq_false c2, decide_eq_false c3, decide_eq_false c4, hI, Option.bind_some, D5]
              simp only [hx, decide_true, Bool.not_true, cond_false, if_true]
              rw [← h1']
            · rw [h]
              have D5 := D5 noDdl noDdl_sm
              dsimp only at D5
              have bad5 : cStmtText (5, (w.getD 1 E0, ([], ([], noDdl)))) ≠ s := stmtText_bad hs0 (by
                have : cDdlOk noDdl = false := by simp [cDdlOk, noDdl]
                simp [cStmtOk, this])
              simp only [cond_false, e0, e1, e2, e3, cond_true, text_eq, sliceEq, show (0 : Int).toNat = 0 from rfl, show (1 : Int).toNat = 1 from rfl, show (2 : Int).toNat = 2 from rfl, show (⟨#[]⟩ : ByteArray) = E0 from rfl, show (⟨#[105, 110, 115, 101, 114, 116]⟩ : ByteArray) = tIns from rfl, show (⟨#[117, 112, 100, 97, 116, 101]⟩ : ByteArray) = tUpd from rfl, show (⟨#[100, 101, 108, 101, 116, 101]⟩ : ByteArray) = tDel from rfl, show (⟨#[99, 108, 101, 97, 114]⟩ : ByteArray) = tClr from rfl, decide_eq_false c1, decide_eq_false c2, decide_eq_false c3, decide_eq_false c4, hI, Option.bind_some, D5]
              simp only [decide_eq_false bad5, Bool.not_false, cond_true]; rfl

theorem finS_sm {x : T_Stmt} {s : ByteArray} (h : sm_Stmt 1048576 x) : sm_Stmt 1048576 (finS x s).1 := by
  unfold finS
  split
  · exact h
  · exact ⟨by decide, ⟨by simp [noStmt], by simp [noStmt]⟩, ⟨by simp [noStmt], by simp [noStmt]⟩, noDdl_sm⟩
theorem noStmt_sm : sm_Stmt 1048576 noStmt := ⟨by decide, ⟨by simp [noStmt], by simp [noStmt]⟩, ⟨by simp [noStmt], by simp [noStmt]⟩, noDdl_sm⟩
theorem cTextStmt_sm {s : ByteArray} (hs : s.size ≤ 1048576) : sm_Stmt 1048576 (cTextStmt s).1 := by
  have hw := wsOk_cut 32 hs
  have hd := cTextDdl_sm hs
  unfold cTextStmt
  generalize cCut s 32 = w at hw ⊢
  have zv : sm_ValS 1048576 [] := ⟨by simp, by simp⟩
  have d2 := hw.drop 2
  split
  · exact noStmt_sm
  · split
    · exact finS_sm ⟨hw.get 1, zv, valsS_sm d2, noDdl_sm⟩
    · split
      · split
        · exact noStmt_sm
        · exact finS_sm ⟨hw.get 1, valsS_sm (d2.take _), valsS_sm (d2.drop _), noDdl_sm⟩
      · split
        · exact finS_sm ⟨hw.get 1, valsS_sm d2, zv, noDdl_sm⟩
        · split
          · exact finS_sm ⟨hw.get 1, zv, zv, noDdl_sm⟩
          · split
            · exact ⟨hd.1, zv, zv, hd⟩
            · exact noStmt_sm
theorem same_TextStmt : EV fun n => ∀ (x0 : ByteArray), x0.size ≤ 1048576 → ∃ r, spec_TextStmt n x0 = some r ∧ impl_TextStmt n x0 = some r ∧ sm_Stmt 1048576 r.1 := (spec_TextStmt_ok.and impl_TextStmt_ok).mono fun n ⟨h1, h2⟩ s hs => ⟨_, h1 s hs, h2 s hs, cTextStmt_sm hs⟩
theorem law_TextStmt : EV fun n => ∀ (x0 : ByteArray), x0.size ≤ 140737488355328 → laws_FnExactTextStmt n x0 = some true := ((eqStmt_ok.and (markStmt_ok.and (heldStmt_ok.and same_TextStmt)))).up fun n h x0 w0 => by
  rw [laws_FnExactTextStmt]
  refine law_str fun s0 => ?_
  obtain ⟨r, e1, e2, z0⟩ := h.2.2.2 x0 s0
  have u0 := h.1 r.1 r.1 z0
  have b0 := mb_Stmt z0
  have m10 := h.2.1 r.1 ((1 : Int)) z0 (by omega) (by simp only [markMax]; omega)
  have n10 := h.2.2.1 r.1 ((1 : Int)) z0 (by omega) (by simp only [markMax]; omega)
  have d10 : decide ((1 : Int) + (mc_Stmt r.1 : Int) < 0) = false := decide_eq_false (by omega)
  simp only [e1, e2, u0, m10, n10, d10, Option.bind_some, decide_true, Bool.not_true, Bool.not_false, Bool.or_false, Bool.false_or, bne_self_eq_false, BEq.rfl, cond_true, cond_false]
end Go.Proofs.Ytmkiekipgfmggaa.Ev

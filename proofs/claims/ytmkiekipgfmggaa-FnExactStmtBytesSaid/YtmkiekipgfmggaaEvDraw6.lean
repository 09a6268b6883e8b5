/- Regions whose order is open: from the list's own order to any. -/
import Derived.Test.YtmkiekipgfmggaaEvDraw5
set_option linter.all false
namespace Go.Proofs.Ytmkiekipgfmggaa.Ev
open Go
section
variable {E : Env} {C : CF} {deep : Bool} {ops : Array Oper} {R : Type} {κ : St → Option R} {r : R}
theorem foldl_bits {acc : List Nat} : ∀ (l : List Edge) (s i : Nat), (l.foldl (fun s e => bif bindsB e then s ||| 2 ^ e.on ||| acc.getD e.on 0 else s) s).testBit i = true →
    s.testBit i = true ∨ ∃ e ∈ l, bindsB e = true ∧ (i = e.on ∨ (acc.getD e.on 0).testBit i = true)
  | [], s, i, h => .inl h
  | e :: l, s, i, h => by
    rw [List.foldl_cons] at h
    rcases foldl_bits l _ i h with h | ⟨e', h1, h2⟩
    · cases hb : bindsB e <;> simp only [hb, cond_true, cond_false] at h
      · exact .inl h
      · simp only [Nat.testBit_or, Bool.or_eq_true, Nat.testBit_two_pow, decide_eq_true_eq] at h
        rcases h with (h | h) | h
        · exact .inl h
        · exact .inr ⟨e, List.mem_cons_self .., hb, .inl h.symm⟩
        · exact .inr ⟨e, List.mem_cons_self .., hb, .inr h⟩
    · exact .inr ⟨e', List.mem_cons_of_mem _ h1, h2⟩
def DepsIn (o : Oper) (l : Array Bool) : Prop := ∀ e ∈ o.after, Region.binds .any e = true → l.getD e.on false = true
def BitsOk (ops : Array Oper) (acc : List Nat) : Prop := ∀ (j m : Nat) (o : Oper), acc[j]? = some m → ops[j]? = some o → ∀ l, Closed ops l → DepsIn o l → ∀ i, m.testBit i = true → l.getD i false = true
theorem befores_ok : ∀ (t : List Oper) (acc : List Nat), (∀ j, t[j]? = ops[acc.length + j]?) → BitsOk ops acc → BitsOk ops (befores t acc)
  | [], acc, _, h => h
  | o :: t, acc, ht, h => by
    simp only [befores]
    refine befores_ok t _ (fun j => ?_) ?_
    · have := ht (j + 1)
      simpa [Nat.add_assoc, Nat.add_comm 1 j] using this
    · intro j m oj hj hoj l hcl hd i hi
      rw [List.getElem?_append] at hj
      split at hj
      · exact h j m oj hj hoj l hcl hd i hi
      · rename_i hlt
        have hj0 : j = acc.length := by
          rcases Nat.lt_or_ge (j - acc.length) 1 with h' | h'
          · omega
          · rw [List.getElem?_eq_none (by simpa using h')] at hj; cases hj
        subst hj0
        simp at hj; subst hj
        have ho : ops[acc.length]? = some o := by simpa using (ht 0).symm
        obtain rfl := Option.some.inj (hoj.symm.trans ho)
        have hi' := foldl_bits (acc := acc) oj.after.toList 0 i (by simpa using hi)
        rcases hi' with hi' | ⟨e, he, hb, hi'⟩
        · simp at hi'
        · have hel := hd e (by simpa using he) hb
          rcases hi' with rfl | hi'
          · exact hel
          · cases hm : acc[e.on]? with
            | none => simp [List.getD, hm] at hi'
            | some m =>
              simp only [List.getD, hm, Option.getD_some] at hi'
              have hlt : e.on < ops.size := by
                have hlt1 := (List.getElem?_eq_some_iff.mp hm).1
                have := (Array.getElem?_eq_some_iff.1 ho).1
                omega
              refine h e.on m ops[e.on] hm (Array.getElem?_eq_getElem hlt) l hcl ?_ i hi'
              exact hcl e.on _ (Array.getElem?_eq_getElem hlt) hel
theorem rowB_ok {k : Nat} {x : Oper} {p : List Nat × List Nat} : ∀ {ys : List Oper} {bs : List Nat} {qs : List (List Nat × List Nat)}, rowB ops k x p ys bs qs = true → ∀ (m : Nat) (y : Oper), ys[m]? = some y →
    ∃ (b : Nat) (q : List Nat × List Nat), bs[m]? = some b ∧ qs[m]? = some q ∧ (b.testBit k = true ∨ pairB ops x y p q = true)
  | [], _, _, _, m, y, h => by simp at h
  | y' :: ys, [], _, h, m, y, hy => by simp [rowB] at h
  | y' :: ys, _ :: _, [], h, m, y, hy => by simp [rowB] at h
  | y' :: ys, b :: bs, q :: qs, h, 0, y, hy => by
    simp only [rowB, Bool.and_eq_true, Bool.or_eq_true] at h
    simp at hy; subst hy
    exact ⟨b, q, rfl, rfl, h.1⟩
  | y' :: ys, b :: bs, q :: qs, h, m + 1, y, hy => by
    simp only [rowB, Bool.and_eq_true] at h
    obtain ⟨b', q', h1, h2, h3⟩ := rowB_ok h.2 m y (by simpa using hy)
    exact ⟨b', q', by simpa using h1, by simpa using h2, h3⟩
theorem pairsB_ok : ∀ {xs : List Oper} {k : Nat} {bs : List Nat} {ps : List (List Nat × List Nat)}, pairsB ops k xs bs ps = true → ∀ (a : Nat) (x : Oper), xs[a]? = some x →
    ∃ p, ps[a]? = some p ∧ ∀ (m : Nat) (y : Oper), a < m → xs[m]? = some y → ∃ (b : Nat) (q : List Nat × List Nat), bs[m]? = some b ∧ ps[m]? = some q ∧ (b.testBit (k + a) = true ∨ pairB ops x y p q = true)
  | [], _, _, _, _, a, x, h => by simp at h
  | x' :: xs, k, [], _, h, a, x, hx => by simp [pairsB] at h
  | x' :: xs, k, _ :: _, [], h, a, x, hx => by simp [pairsB] at h
  | x' :: xs, k, b0 :: bs, p0 :: ps, h, 0, x, hx => by
    simp only [pairsB, Bool.and_eq_true] at h
    simp at hx; subst hx
    refine ⟨p0, rfl, fun m y hm hy => ?_⟩
    cases m with
    | zero => omega
    | succ m =>
      obtain ⟨b, q, h1, h2, h3⟩ := rowB_ok h.1 m y (by simpa using hy)
      exact ⟨b, q, by simpa using h1, by simpa using h2, by simpa using h3⟩
  | x' :: xs, k, b0 :: bs, p0 :: ps, h, a + 1, x, hx => by
    simp only [pairsB, Bool.and_eq_true] at h
    obtain ⟨p, h1, h2⟩ := pairsB_ok h.2 a x (by simpa using hx)
    refine ⟨p, by simpa using h1, fun m y hm hy => ?_⟩
    cases m with
    | zero => omega
    | succ m =>
      obtain ⟨b, q, h3, h4, h5⟩ := h2 m y (by omega) (by simpa using hy)
      exact ⟨b, q, by simpa using h3, by simpa using h4, by rwa [show k + (a + 1) = k + 1 + a by omega]⟩
theorem aheadB_ok : ∀ {t : List Oper} {k : Nat}, aheadB k t = true → ∀ (m : Nat) (o : Oper), t[m]? = some o → ∀ e ∈ o.after, Region.binds .any e = true → e.on < k + m
  | [], _, _, m, o, h => by simp at h
  | o' :: t, k, h, 0, o, ho => by
    simp only [aheadB, Bool.and_eq_true] at h
    simp at ho; subst ho
    intro e he hb
    have := List.all_eq_true.mp h.1 e (by simpa using he)
    simp only [Bool.or_eq_true, Bool.not_eq_true'] at this
    rcases this with h' | h'
    · rw [show bindsB e = Region.binds .any e from rfl, hb] at h'; cases h'
    · exact Nat.blt_eq.mp h'
  | o' :: t, k, h, m + 1, o, ho => by
    simp only [aheadB, Bool.and_eq_true] at h
    intro e he hb
    have := aheadB_ok h.2 m o (by simpa using ho) e he hb
    omega
/-- what the list's own order came to -/
def RunOf (E : Env) (C : CF) (deep : Bool) (ops : Array Oper) (κ : St → Option R) (r : R) (F : List (List Nat × List Nat)) : List Oper → Nat → St → Prop
  | [], _, σ => κ σ = some r
  | o :: t, k, σ => ∃ σ', evalStep E C deep ops o σ some = some σ' ∧ mayDraw E o σ σ' = true ∧ F[k]? = some (rdOf o σ, tchOf E o σ σ') ∧ RunOf E C deep ops κ r F t (k + 1) σ'
theorem draw_run (hC : CFdet C) : ∀ (l : List Oper) (fs : List (List Nat × List Nat)) (σ : St), evalDraw E C deep ops l fs σ κ = some r →
    ∃ F t, F = fs ++ t ∧ drawB ops F = true ∧ RunOf E C deep ops κ r F l fs.length σ
  | [], fs, σ, h => by
    simp only [evalDraw] at h
    cases hb : drawB ops fs <;> simp only [hb, cond_true, cond_false] at h
    · cases h
    · exact ⟨fs, [], by simp, hb, h⟩
  | o :: l, fs, σ, h => by
    simp only [evalDraw] at h
    rw [evalStep_bind hC] at h
    obtain ⟨σ', h1, h2⟩ := Option.bind_eq_some_iff.mp h
    cases hm : mayDraw E o σ σ' <;> simp only [hm, cond_true, cond_false] at h2
    · cases h2
    · obtain ⟨F, t, rfl, h3, h4⟩ := draw_run hC l _ σ' h2
      refine ⟨_, (rdOf o σ, tchOf E o σ σ') :: t, by simp, h3, σ', h1, hm, by simp, ?_⟩
      simpa using h4
theorem mem_keys {q : Nat} : ∀ {rows : List (Nat × ARow)}, look q rows ≠ none → q ∈ rows.map (·.1)
  | [], h => absurd rfl h
  | (k, v) :: t, h => by
    simp only [look] at h
    cases hb : Nat.beq k q <;> simp only [hb, cond_true, cond_false] at h
    · simp only [List.map_cons, List.mem_cons]; exact .inr (mem_keys h)
    · rw [Nat.eq_of_beq_eq_true hb]; simp
theorem tch_of {o : Oper} {σ σ' : St} {q : Nat} (h : Tch E o σ σ' q) : q ∈ tchOf E o σ σ' := by
  unfold tchOf
  rcases h with h | ⟨h1, h2⟩
  · exact List.mem_append_left _ h
  · refine List.mem_append_right _ ?_
    unfold newOf
    rw [List.mem_filter]
    exact ⟨mem_keys h2, by rw [h1]⟩
theorem draw_any (hC : CFdet C) {F : List (List Nat × List Nat)} (hB : drawB ops F = true) : ∀ (l : List Oper) (k : Nat) (σ : St) (listed : Array Bool), (∀ j, l[j]? = ops[k + j]?) → k + l.length = ops.size → listed.size = ops.size →
    (∀ j, j < ops.size → listed[j]? = some (decide (j < k))) → RunOf E C deep ops κ r F l k σ →
    AnyE E C deep ops (fun i => (F.getD i ([], [])).1) (fun i => (F.getD i ([], [])).2) κ r l.length listed σ := by
  simp only [drawB, Bool.and_eq_true] at hB
  obtain ⟨⟨_, hahead⟩, hpairs⟩ := hB
  have hlt : ∀ {i : Nat} {o : Oper}, ops[i]? = some o → ∀ e ∈ o.after, Region.binds .any e = true → e.on < i := by
    intro i o ho e he hb
    have := aheadB_ok hahead i o (by simpa using ho) e he hb
    omega
  have hbits : BitsOk ops (befores ops.toList []) := befores_ok ops.toList [] (by simp) (by intro j m o hj; simp at hj)
  intro l
  induction l with
  | nil =>
    intro k σ listed hl hk hsz hls hrun
    refine ⟨?_, σ, Same.refl σ, hrun⟩
    cases hr : Region.ready .any ops listed with
    | nil => rfl
    | cons i t =>
      have hi : i ∈ Region.ready .any ops listed := by rw [hr]; exact List.mem_cons_self ..
      obtain ⟨h1, o, ho, _⟩ := mem_ready.1 hi
      have hio := (Array.getElem?_eq_some_iff.1 ho).1
      have := hls i hio
      have hki : i < k := by simp at hk; omega
      simp only [Array.getD_eq_getD_getElem?, this, Option.getD_some, decide_eq_false_iff_not] at h1
      exact absurd hki h1
  | cons o t ih =>
    intro k σ listed hl hk hsz hls hrun
    obtain ⟨σ', h1, h2, h3, h4⟩ := hrun
    have ho : ops[k]? = some o := by simpa using (hl 0).symm
    have hkl : k < ops.size := (Array.getElem?_eq_some_iff.1 ho).1
    have hgt : ∀ j, j < ops.size → ∀ d, listed.getD j d = decide (j < k) := by
      intro j hj d
      simp only [Array.getD_eq_getD_getElem?, hls j hj, Option.getD_some]
    have hcl : Closed ops listed := by
      intro j oj hj hlj e he hb
      have hjs := (Array.getElem?_eq_some_iff.1 hj).1
      rw [hgt j hjs, decide_eq_true_eq] at hlj
      have := hlt hj e he hb
      rw [hgt e.on (by omega)]
      simp; omega
    have hready : k ∈ Region.ready .any ops listed := by
      rw [mem_ready]
      refine ⟨by rw [hgt k hkl]; simp, o, ho, fun e he hb => ?_⟩
      have := hlt ho e he hb
      rw [hgt e.on (by omega)]
      simpa using this
    refine AnyE.first hC ho t.length listed σ σ' hcl (fun j oj hoj hjk hun => ?_) hready ⟨h1, h2, fun q hq => ?_, fun q hq => ?_⟩ (ih (k + 1) σ' _ (fun j => ?_) ?_ ?_ ?_ h4)
    · have hjs := (Array.getElem?_eq_some_iff.1 hoj).1
      have hkj : k < j := by
        rw [hgt j hjs] at hun
        simp at hun; omega
      obtain ⟨p, hp, hall⟩ := pairsB_ok hpairs k o (by simpa using ho)
      obtain ⟨b, q, hb, hq, hor⟩ := hall j oj hkj (by simpa using hoj)
      rw [Nat.zero_add] at hor
      rcases hor with hor | hor
      · left
        intro l hlc hlk hjr
        obtain ⟨_, oj', hoj', hdeps⟩ := mem_ready.1 hjr
        obtain rfl := Option.some.inj (hoj.symm.trans hoj')
        have := hbits j b oj hb hoj l hlc hdeps k hor
        rcases Nat.lt_or_ge k l.size with h' | h'
        · simp [h'] at this hlk; rw [this] at hlk; cases hlk
        · simp [Array.getElem?_eq_none h'] at this
      · right
        simp only [pairB, Bool.and_eq_true] at hor
        obtain ⟨⟨⟨⟨⟨a0, a1⟩, a2⟩, a3⟩, a4⟩, a5⟩ := hor
        obtain ⟨s1, s2, s3⟩ := Oper.apart_spec a0
        have ek : F.getD k ([], []) = p := by simp [List.getD, hp]
        have ej : F.getD j ([], []) = q := by simp [List.getD, hq]
        exact ⟨s1, s2, s3, by rw [ek, ej]; exact apartL_iff a1, by rw [ek, ej]; exact apartL_iff a2, by rw [ek, ej]; exact apartL_iff a3, by rw [ej]; exact apartL_iff a4, by rw [ek]; exact apartL_iff a5⟩
    · simp only [List.getD, h3, Option.getD_some]; exact hq
    · simp only [List.getD, h3, Option.getD_some]; exact tch_of hq
    · have := hl (j + 1)
      simpa [Nat.add_assoc, Nat.add_comm 1 j] using this
    · simp only [List.length_cons] at hk; omega
    · simpa using hsz
    · intro j hj
      rw [Array.getElem?_setIfInBounds]
      by_cases hkj : k = j
      · subst hkj; rw [if_pos rfl, if_pos (by rw [hsz]; exact hj)]; simp
      · rw [if_neg hkj, hls j hj]
        congr 1
        by_cases h' : j < k
        · simp [h']; omega
        · simp [h']; omega
theorem draw_all (hC : CFdet C) {σ : St} (h : evalDraw E C deep ops ops.toList [] σ κ = some r) : ∃ RdF TF, AnyE E C deep ops RdF TF κ r ops.size (Array.replicate ops.size false) σ := by
  obtain ⟨F, t, e, h1, h2⟩ := draw_run hC ops.toList [] σ h
  refine ⟨_, _, draw_any hC h1 ops.toList 0 σ _ (by simp) (by simp) (by simp) (fun j hj => ?_) h2⟩
  rw [Array.getElem?_replicate]; simp [hj]
end
end Go.Proofs.Ytmkiekipgfmggaa.Ev

/- Functions: what is handed back, and the whole: THE EVALUATOR IS SOUND. -/
import Derived.Test.YtalmhjlcjcnidaaEvBody
set_option linter.all false
namespace Go.Proofs.Ytalmhjlcjcnidaa.Ev
open Go
section
variable {P : Program} {E : Env} {X : Ctx} {σ σ' : St} {a : Act} {w w' : World} {G : Gh}
theorem resTV_ok (hE : EnvOk P E) (hs : Sim X σ a w G) {x : ResultVar} {y : TV} (h : resTV E X.deep σ x = some y) :
    ∃ v, ((match x with
      | .tmp t => pure (a.tmps.getD t undef)
      | .cell b t => do loadVar t (← asAddr (a.tmps.getD b undef)) : Sem Value)).run P w = .ok v w ∧ TRel X σ w.heap G y v ∧ y ≠ .one .undef := by
  cases x with
  | tmp t =>
    simp only [resTV] at h
    refine ⟨a.tmps.getD t undef, by simp, (hs.evT h).1, ?_⟩
    rintro rfl
    unfold St.evT at h
    split at h
    · cases h
    · obtain rfl := Option.some.inj h
      rename_i h1 h2
      exact h1 rfl
    · cases h
  | cell b t =>
    simp only [resTV] at h
    obtain ⟨z, hz, h⟩ := Option.bind_eq_some_iff.mp h
    split at h
    · cases h
    · rename_i hne
      obtain rfl := Option.some.inj h
      obtain ⟨v, q, e, h1, h2, h3⟩ := hs.loadT hE hz
      refine ⟨v, ?_, h2, hne⟩
      have e' : a.tmps.getD b undef = .pointer (some q) := e
      simp [e', asAddr, h1]
theorem resTVs_ok (hE : EnvOk P E) (hs : Sim X σ a w G) : ∀ {l : List ResultVar} {ys : List TV}, l.mapM (resTV E X.deep σ) = some ys →
    ∃ vs, (l.mapM fun x => (match x with
      | .tmp t => pure (a.tmps.getD t undef)
      | .cell b t => do loadVar t (← asAddr (a.tmps.getD b undef)) : Sem Value)).run P w = .ok vs w ∧ All2 (TRel X σ w.heap G) ys vs ∧ ∀ y ∈ ys, y ≠ .one .undef
  | [], ys, h => by simp at h; subst h; exact ⟨[], by simp, .nil, by simp⟩
  | x :: l, ys, h => by
    rw [List.mapM_cons] at h
    obtain ⟨y, hy, h⟩ := Option.bind_eq_some_iff.mp h
    obtain ⟨ys', hys, h⟩ := Option.bind_eq_some_iff.mp h
    obtain rfl := Option.some.inj h
    obtain ⟨v, h1, h2, h5⟩ := resTV_ok hE hs hy
    obtain ⟨vs, h3, h4, h6⟩ := resTVs_ok hE hs hys
    refine ⟨v :: vs, ?_, .cons h2 h4, ?_⟩
    · rw [List.mapM_cons]
      simp only [Sem.run_bind, h1, Result.andThen_ok, h3, Sem.run_pure]
    · intro z hz
      rcases List.mem_cons.mp hz with rfl | hz
      · exact h5
      · exact h6 z hz
def backIdx (deep : Bool) (σ : St) : Nat → List Leaf → List (Nat × Nat)
  | _, [] => []
  | j, .ow r :: t => (match σ.look r with
      | some (.data f _) => bif deep || f.flat then [(r, j)] else []
      | _ => []) ++ backIdx deep σ (j + 1) t
  | j, .sub r off _ :: t => (match σ.look r with
      | some (.data f _) => bif (deep || f.flat) && Nat.beq off 0 then [(r, j)] else []
      | _ => []) ++ backIdx deep σ (j + 1) t
  | j, _ :: t => backIdx deep σ (j + 1) t
theorem backIdx_fst (deep : Bool) : ∀ (ls : List Leaf) (j : Nat), (backIdx deep σ j ls).map (·.1) = backRefs deep σ ls
  | [], _ => rfl
  | l :: t, j => by
    have ih := backIdx_fst deep t (j + 1)
    cases l <;> simp only [backIdx, backRefs, ih]
    · rename_i r
      rw [List.map_append, ih]
      congr 1
      cases hr : σ.look r with
      | none => rfl
      | some row =>
        cases row with
        | data f xs => cases hd : deep || f.flat <;> simp [hd]
        | dead => rfl
        | hol => rfl
        | box => rfl
    · rename_i r off len
      rw [List.map_append, ih]
      congr 1
      cases hr : σ.look r with
      | none => rfl
      | some row =>
        cases row with
        | data f xs => cases hd : (deep || f.flat) && Nat.beq off 0 <;> simp [hd]
        | dead => rfl
        | hol => rfl
        | box => rfl
theorem backIdx_mem {deep : Bool} : ∀ (ls : List Leaf) (j n r : Nat) (f : Kd) (xs : List f.T), ls[n]? = some (.ow r) → σ.look r = some (.data f xs) → (deep || f.flat) = true → (r, j + n) ∈ backIdx deep σ j ls
  | [], j, n, r, f, xs, h, _, _ => by simp at h
  | l :: t, j, 0, r, f, xs, h, hr, hf => by
    simp at h; subst h
    simp only [backIdx, hr, hf, cond_true, List.mem_append]
    exact .inl (by simp)
  | l :: t, j, n + 1, r, f, xs, h, hr, hf => by
    have ih := backIdx_mem t (j + 1) n r f xs (by simpa using h) hr hf
    rw [show j + 1 + n = j + (n + 1) by omega] at ih
    cases l <;> simp only [backIdx] <;> try exact ih
    · exact List.mem_append_right _ ih
    · exact List.mem_append_right _ ih
theorem backIdx_sub {deep : Bool} : ∀ (ls : List Leaf) (j n r len : Nat) (f : Kd) (xs : List f.T), ls[n]? = some (.sub r 0 len) → σ.look r = some (.data f xs) → (deep || f.flat) = true → (r, j + n) ∈ backIdx deep σ j ls
  | [], j, n, r, len, f, xs, h, _, _ => by simp at h
  | l :: t, j, 0, r, len, f, xs, h, hr, hf => by
    simp at h; subst h
    simp only [backIdx, hr, hf, Nat.beq, Bool.and_self, Bool.true_and, cond_true, List.mem_append]
    exact .inl (by simp)
  | l :: t, j, n + 1, r, len, f, xs, h, hr, hf => by
    have ih := backIdx_sub t (j + 1) n r len f xs (by simpa using h) hr hf
    rw [show j + 1 + n = j + (n + 1) by omega] at ih
    cases l <;> simp only [backIdx] <;> try exact ih
    · exact List.mem_append_right _ ih
    · exact List.mem_append_right _ ih
theorem backIdx_data {deep : Bool} : ∀ (ls : List Leaf) (j r k : Nat), (r, k) ∈ backIdx deep σ j ls → ∃ f xs, σ.look r = some (.data f xs) ∧ (deep || f.flat) = true
  | [], j, r, k, h => by simp [backIdx] at h
  | l :: t, j, r, k, h => by
    cases l <;> simp only [backIdx] at h <;> try exact backIdx_data t (j + 1) r k h
    · rename_i r'
      rcases List.mem_append.mp h with h | h
      · split at h
        · rename_i f xs hr
          cases hd : deep || f.flat <;> simp only [hd, cond_true, cond_false] at h
          · simp at h
          · simp at h; obtain ⟨rfl, _⟩ := h; exact ⟨f, xs, hr, hd⟩
        · simp at h
      · exact backIdx_data t (j + 1) r k h
    · rename_i r' off len
      rcases List.mem_append.mp h with h | h
      · split at h
        · rename_i f xs hr
          cases hd : (deep || f.flat) && Nat.beq off 0 <;> simp only [hd, cond_true, cond_false] at h
          · simp at h
          · simp only [Bool.and_eq_true] at hd
            simp at h; obtain ⟨rfl, _⟩ := h; exact ⟨f, xs, hr, hd.1⟩
        · simp at h
      · exact backIdx_data t (j + 1) r k h
/-- the values of several results, cell by cell -/
theorem rets_all {f : Leaf → Option Leaf} {R : Leaf → Value → Prop} {R' : Nat → Leaf → Value → Prop} {T : TV → Value → Prop} (hT : ∀ x v, T x v → x ≠ .one .undef → (∃ l, x = .one l ∧ R l v) ∨ ∃ ls vs, x = .agg ls ∧ v = .agg (List.toArray vs) ∧ All2 R ls vs) :
    ∀ {xs ys : List TV} {vs : List Value} {j : Nat}, xs.mapM (TV.mapM f) = some ys → All2 T xs vs → (∀ x ∈ xs, x ≠ .one .undef) →
    (∀ n l m v, (xs.flatMap TV.leaves)[n]? = some l → f l = some m → R l v → R' (j + n) m v) → ∃ us, AllJ R' j (ys.flatMap TV.leaves) us ∧ TVsShape ys us vs
  | [], ys, vs, j, h, ha, _, _ => by simp at h; subst h; cases ha; exact ⟨[], .nil, rfl, rfl⟩
  | x :: xs, ys, vs, j, h, ha, hne, hR => by
    rw [List.mapM_cons] at h
    obtain ⟨y, hy, h⟩ := Option.bind_eq_some_iff.mp h
    obtain ⟨ys', hys, h⟩ := Option.bind_eq_some_iff.mp h
    obtain rfl := Option.some.inj h
    cases ha with
    | @cons _ v _ vs' h1 h2 =>
      simp only [List.flatMap_cons] at hR ⊢
      have hy' : y.leaves.length = x.leaves.length ∧ ∃ us, AllJ R' j y.leaves us ∧ TVShape y us v := by
        rcases hT x v h1 (hne x (List.mem_cons_self ..)) with ⟨l, rfl, hl⟩ | ⟨ls, ws, rfl, rfl, hl⟩
        · obtain ⟨m, hm, rfl⟩ := Option.map_eq_some_iff.mp hy
          refine ⟨rfl, [v], .cons ?_ .nil, rfl⟩
          have := hR 0 l m v (by simp [TV.leaves]) hm hl
          simpa using this
        · obtain ⟨ms, hm, rfl⟩ := Option.map_eq_some_iff.mp hy
          refine ⟨mapM_length hm, ws, mapM_allJ hm hl fun n l m v h3 h4 h5 => hR n l m v ?_ h4 h5, rfl, by rw [← hl.length, mapM_length hm]⟩
          rw [List.getElem?_append_left (by simp only [TV.leaves]; exact (List.getElem?_eq_some_iff.mp h3).1)]; exact h3
      obtain ⟨hyl, us, h3, h4⟩ := hy'
      obtain ⟨us', h5, h6⟩ := rets_all hT (j := j + x.leaves.length) hys h2 (fun z hz => hne z (List.mem_cons_of_mem _ hz)) fun n l m v h7 h8 h9 => by
        have := hR (x.leaves.length + n) l m v (by rw [List.getElem?_append_right (by omega), Nat.add_sub_cancel_left]; exact h7) h8 h9
        rwa [← Nat.add_assoc] at this
      exact ⟨us ++ us', h3.append (by rw [hyl]; exact h5), us, us', v, vs', rfl, rfl, h4, h6⟩
theorem mkAV_leaves : ∀ ys : List TV, (mkAV ys).leaves = ys.flatMap TV.leaves
  | [] => rfl
  | [y] => by simp [mkAV, AV.leaves]
  | _ :: _ :: _ => rfl
theorem TVsShape.len : ∀ {ys : List TV} {us vs : List Value}, TVsShape ys us vs → ys.length = vs.length
  | [], us, vs, h => by obtain ⟨_, rfl⟩ := h; rfl
  | y :: ys, us, vs, h => by
    obtain ⟨u1, u2, v, vs', rfl, rfl, h1, h2⟩ := h
    simp [TVsShape.len h2]
def boxIdx : Nat → List Leaf → List (Nat × Nat)
  | _, [] => []
  | n, .ptr r _ _ :: t => (r, n) :: boxIdx (n + 1) t
  | n, _ :: t => boxIdx (n + 1) t
theorem boxIdx_fst : ∀ (ls : List Leaf) (n : Nat), (boxIdx n ls).map (·.1) = pinBoxes ls
  | [], _ => rfl
  | l :: t, n => by cases l <;> simp [boxIdx, pinBoxes, boxIdx_fst t (n + 1)]
theorem pinTVs_ok (hs : Sim X σ a w G) {ow1 : Nat → Option Nat} : ∀ {ls : List Leaf} {ps : List TV} {pv : List Value} {n : Nat}, ls.mapM (pinTV σ) = some ps → All2 (LRel X σ w.heap G) ls pv →
    (∀ b r k, G.rt b = some r → (r, k) ∈ boxIdx n ls → ow1 b = some k) → (∃ cs, All2 (TRel X σ w.heap G) ps cs ∧ (∀ y ∈ ps, y ≠ .one .undef) ∧ PinOk w.heap ow1 n pv cs) ∧ ∀ r k, (r, k) ∈ boxIdx n ls → ∃ f zs, σ.look r = some (.box f zs)
  | [], ps, pv, n, h, hl, _ => by simp at h; subst h; cases hl; exact ⟨⟨[], .nil, by simp, rfl⟩, fun r k h => by simp [boxIdx] at h⟩
  | l :: ls, ps, pv, n, h, hl, how => by
    rw [List.mapM_cons] at h
    obtain ⟨y, hy, h⟩ := Option.bind_eq_some_iff.mp h
    obtain ⟨ys', hys, h⟩ := Option.bind_eq_some_iff.mp h
    obtain rfl := Option.some.inj h
    cases hl with
    | @cons _ v _ vs h1 h2 =>
      obtain ⟨⟨cs, i1, i2, i3⟩, i4⟩ := pinTVs_ok hs (n := n + 1) hys h2 fun b r k hb hk => how b r k hb (by cases l <;> simp only [boxIdx] <;> first | exact hk | exact List.mem_cons_of_mem _ hk)
      cases l <;> simp only [pinTV] at hy <;> try (cases hy; done)
      case ow r =>
        split at hy
        · rename_i f xs hr
          obtain rfl := Option.some.inj hy
          refine ⟨⟨v :: cs, .cons (.inr h1) i1, fun y hy => ?_, v, cs, rfl, i3, .inl ⟨?_, rfl⟩⟩, i4⟩
          · rcases List.mem_cons.mp hy with rfl | hy
            · simp
            · exact i2 y hy
          · rw [h1.2 f xs (St.dat_of hr)]
            rcases hs.row r _ hr with ⟨_, e⟩ | ⟨b, cap, arr, e, fr, ow, d1, _⟩
            · exact ⟨_, _, _, e⟩
            · exact ⟨_, _, _, d1⟩
        · cases hy
      case ptr r i c =>
        split at hy
        · rename_i e; cases e
        · rename_i r' e
          cases e
          split at hy
          · rename_i f zs hr
            obtain rfl := Option.some.inj hy
            obtain ⟨b, arr, e, fr, d1, d2, d3, d4, d5, d6⟩ := hs.row _ _ hr
            obtain ⟨b', q1, q2⟩ := h1.2.2 f zs hr
            rw [d1] at q1; simp at q1; subst q1
            refine ⟨⟨.agg arr :: cs, .cons ⟨arr.toList, by simp, d6⟩ i1, fun y hy => ?_, .agg arr, cs, rfl, i3, .inr ⟨b, arr, e, fr, q2, d3, d4, rfl, how b _ n d2 (List.mem_cons_self ..)⟩⟩, fun r k hk => ?_⟩
            · rcases List.mem_cons.mp hy with rfl | hy
              · simp
              · exact i2 y hy
            · rcases List.mem_cons.mp hk with e | hk
              · cases e; exact ⟨f, zs, hr⟩
              · exact i4 r k hk
          · cases hy
        · cases hy
theorem look_mem' {l : List (Nat × Nat)} {r k : Nat} : look r l = some k → (r, k) ∈ l := by
  induction l with
  | nil => intro h; cases h
  | cons p t ih =>
    obtain ⟨r', k'⟩ := p
    intro h
    simp only [look] at h
    cases hb : Nat.beq r' r <;> simp only [hb, cond_true, cond_false] at h
    · exact List.mem_cons_of_mem _ (ih h)
    · obtain rfl := Option.some.inj h
      rw [Nat.eq_of_beq_eq_true hb]; exact List.mem_cons_self ..
/-- WHAT IS HANDED BACK. -/
theorem retOf_ok (hE : EnvOk P E) {deep : Bool} {w0 : World} {S : Nat → Prop} {ow0 : Nat → Option Nat} {pv : List Value} (hs : Sim ⟨deep, w0, S, fun q => ow0 q ≠ none, pv⟩ σ a w G) (hSz : ∀ q, S q → q < w0.heap.size ∧ ow0 q = none)
    {fn : Func} {out : AV} (h : retOf E deep fn σ = some out) : ∃ v, (results fn a.tmps).run P w = .ok v w ∧ Post S ow0 w0 w false pv out v := by
  unfold retOf at h
  obtain ⟨rs, hrs, h⟩ := Option.bind_eq_some_iff.mp h
  obtain ⟨ps, hps, h⟩ := Option.bind_eq_some_iff.mp h
  generalize hxs : rs ++ ps = xs at h
  cases hd : distinct (backRefs deep σ (xs.flatMap TV.leaves)) && distinct (pinBoxes σ.pins) <;> simp only [hd, cond_true, cond_false] at h
  · cases h
  simp only [Bool.and_eq_true] at hd
  obtain ⟨hd, hdb⟩ := hd
  obtain ⟨ys, hys, h⟩ := Option.bind_eq_some_iff.mp h
  obtain ⟨vs, h1, h2, h3⟩ := resTVs_ok (X := ⟨deep, w0, S, fun q => ow0 q ≠ none, pv⟩) hE hs hrs
  have hfst := backIdx_fst (σ := σ) deep (xs.flatMap TV.leaves) 0
  let N := (ys.flatMap TV.leaves).length
  let idx := backIdx deep σ 0 (xs.flatMap TV.leaves)
  let bidx := boxIdx N σ.pins
  let at' : Nat → Option Nat := fun r => match look r idx with
    | some k => some k
    | none => look r bidx
  let ow1 : Nat → Option Nat := fun q => (G.rt q).bind at'
  have hidx : ∀ r, look r idx ≠ none → ∃ f zs, σ.look r = some (.data f zs) ∧ (deep || f.flat) = true := by
    intro r hr
    obtain ⟨k, hk⟩ := Option.ne_none_iff_exists'.mp hr
    exact backIdx_data _ _ _ _ (look_mem' hk)
  obtain ⟨_, hbx⟩ := pinTVs_ok (ow1 := fun b => (G.rt b).bind fun r => look r bidx) hs (n := N) hps hs.pin fun b r k hb hk => by
    show (G.rt b).bind _ = _
    rw [hb, Option.bind_some]
    exact look_mem (by rw [boxIdx_fst]; exact hdb) hk
  have hbidx : ∀ r, look r bidx ≠ none → ∃ f zs, σ.look r = some (.box f zs) := by
    intro r hr
    obtain ⟨k, hk⟩ := Option.ne_none_iff_exists'.mp hr
    exact hbx r k (look_mem' hk)
  obtain ⟨⟨cs, p1, p2, p3⟩, _⟩ := pinTVs_ok (ow1 := ow1) hs (n := N) hps hs.pin fun b r k hb hk => by
    show (G.rt b).bind at' = _
    rw [hb, Option.bind_some]
    have hlk := look_mem (idx := bidx) (by rw [boxIdx_fst]; exact hdb) hk
    show (match look r idx with | some k => some k | none => look r bidx) = _
    cases hi : look r idx with
    | none => exact hlk
    | some k' =>
      obtain ⟨f, zs, e1, _⟩ := hidx r (by rw [hi]; simp)
      obtain ⟨f', zs', e2⟩ := hbx r k hk
      rw [e1] at e2; cases e2
  have hat : ∀ r, at' r ≠ none → σ.live r := by
    intro r hr
    cases hi : look r idx with
    | some k =>
      obtain ⟨f, zs, e1, _⟩ := hidx r (by rw [hi]; simp)
      exact ⟨_, e1, by simp⟩
    | none =>
      have : look r bidx ≠ none := by
        intro e
        apply hr
        show (match look r idx with | some k => some k | none => look r bidx) = none
        rw [hi]; exact e
      obtain ⟨f, zs, e2⟩ := hbidx r this
      exact ⟨_, e2, by simp⟩
  have hatD : ∀ r f zs, σ.look r = some (.data f zs) → at' r = look r idx := by
    intro r f zs hr
    show (match look r idx with | some k => some k | none => look r bidx) = _
    cases hi : look r idx with
    | some k => rfl
    | none =>
      cases hb : look r bidx with
      | none => rfl
      | some k =>
        obtain ⟨f', zs', e2⟩ := hbidx r (by rw [hb]; simp)
        rw [hr] at e2; cases e2
  have hbound : ∀ q r, G.rt q = some r → σ.live r → q < w.heap.size ∧ (w0.heap.size ≤ q ∨ ow0 q ≠ none) := by
    intro q r hq hl
    refine ⟨hs.lt q r hq, ?_⟩
    by_cases h : w0.heap.size ≤ q
    · exact .inl h
    · exact .inr (hs.ownA q r hq hl (by show q < w0.heap.size; omega))
  have how1 : ∀ q j, ow1 q = some j → q < w.heap.size ∧ (w0.heap.size ≤ q ∨ ow0 q ≠ none) := by
    intro q j hq
    obtain ⟨r, hr, hk⟩ := Option.bind_eq_some_iff.mp hq
    exact hbound q r hr (hat r (by rw [hk]; simp))
  let S' : Nat → Prop := fun q => q < w.heap.size ∧ (S q ∨ ow0 q ≠ none ∨ w0.heap.size ≤ q) ∧ ow1 q = none
  have hI : ∀ q, Imm ⟨deep, w0, S, fun q => ow0 q ≠ none, pv⟩ σ w.heap G q → S' q := by
    rintro q ⟨i1, i2, i3⟩
    refine ⟨i1, i2, ?_⟩
    show (G.rt q).bind _ = none
    cases hg : G.rt q with
    | none => rfl
    | some r =>
      rw [Option.bind_some]
      cases hk : at' r with
      | none => rfl
      | some k => exact absurd (hat r (by rw [hk]; simp)) (i3 r hg)
  have hSr : ∀ r f zs, σ.look r = some (.data f zs) → look r idx = none → ∀ q, G.rt q = some r → S' q := by
    intro r f zs hl hn q hq
    obtain ⟨b1, b2⟩ := hbound q r hq ⟨_, hl, by simp⟩
    refine ⟨b1, .inr b2.symm, ?_⟩
    show (G.rt q).bind _ = none
    rw [hq, Option.bind_some, hatD r f zs hl, hn]
  have hleaf : ∀ n l m v, (xs.flatMap TV.leaves)[n]? = some l → retLeaf deep (backRefs deep σ (xs.flatMap TV.leaves)) σ l = some m → LRel ⟨deep, w0, S, fun q => ow0 q ≠ none, pv⟩ σ w.heap G l v → RLeaf m ∧ LA S' ow1 w.heap n m v := by
    intro n l m v hn hm hl
    cases l <;> simp only [retLeaf] at hm <;> try (cases hm; done)
    case int => obtain rfl := Option.some.inj hm; exact ⟨trivial, hl⟩
    case bool => obtain rfl := Option.some.inj hm; exact ⟨trivial, hl⟩
    case str => obtain rfl := Option.some.inj hm; exact ⟨trivial, hl⟩
    case sh => obtain rfl := Option.some.inj hm; exact ⟨trivial, CRel.mono hI hl⟩
    case ow r =>
      split at hm
      · rename_i f zs hr
        rw [hl.2 f zs (St.dat_of hr)]
        cases hf : deep || f.flat <;> simp only [hf, cond_true, cond_false] at hm
        · obtain rfl := Option.some.inj hm
          have hn' : look r idx = none := by
            cases hk : look r idx with
            | none => rfl
            | some k =>
              obtain ⟨f', zs', hlk, hf'⟩ := hidx r (by rw [hk]; simp)
              rw [hr] at hlk; simp at hlk
              obtain ⟨rfl, _⟩ := hlk
              rw [hf] at hf'; cases hf'
          exact ⟨trivial, rowRead (hs.row r _ hr) (hSr r f zs hr hn') hI⟩
        · obtain rfl := Option.some.inj hm
          refine ⟨trivial, rowOut (hs.row r _ hr) hf fun q hq => ?_⟩
          show (G.rt q).bind _ = some n
          rw [hq, Option.bind_some, hatD r f zs hr]
          have := backIdx_mem (deep := deep) (xs.flatMap TV.leaves) 0 n r f zs hn hr hf
          rw [Nat.zero_add] at this
          exact look_mem (by rw [hfst]; exact hd) this
      · cases hm
    case sub r off len =>
      split at hm
      · rename_i f zs hr
        cases hof : (deep || f.flat) && Nat.beq off 0 <;> simp only [hof, cond_true, cond_false] at hm
        · cases hb : memN r (backRefs deep σ (xs.flatMap TV.leaves)) <;> simp only [hb, cond_true, cond_false] at hm
          · simp only [roLeaf, hr] at hm
            obtain rfl := Option.some.inj hm
            have hn' : look r idx = none := look_none fun hc => by
              rw [hfst] at hc
              rw [memN_iff.mpr hc] at hb; cases hb
            exact ⟨trivial, subRead (hs.row r _ hr) hr hl (hSr r f zs hr hn') hI⟩
          · cases hm
        · obtain rfl := Option.some.inj hm
          simp only [Bool.and_eq_true] at hof
          obtain rfl := Nat.eq_of_beq_eq_true hof.2
          obtain ⟨hle, _, hhd⟩ := hl.2 f zs (St.dat_of hr)
          refine ⟨trivial, rowOutSub (hs.row r _ hr) hof.1 (fun q hq => ?_) (by omega) (hhd rfl)⟩
          show (G.rt q).bind _ = some n
          rw [hq, Option.bind_some, hatD r f zs hr]
          have := backIdx_sub (deep := deep) (xs.flatMap TV.leaves) 0 n r len f zs hn hr hof.1
          rw [Nat.zero_add] at this
          exact look_mem (by rw [hfst]; exact hd) this
      · cases hm
  have h2' : All2 (TRel ⟨deep, w0, S, fun q => ow0 q ≠ none, pv⟩ σ w.heap G) xs (vs ++ cs) := by rw [← hxs]; exact All2.app h2 p1
  have h3' : ∀ y ∈ xs, y ≠ .one .undef := by
    intro y hy
    rw [← hxs] at hy
    rcases List.mem_append.mp hy with hy | hy
    · exact h3 y hy
    · exact p2 y hy
  obtain ⟨us, h4, h5⟩ := rets_all (R := LRel ⟨deep, w0, S, fun q => ow0 q ≠ none, pv⟩ σ w.heap G) (R' := fun j l v => RLeaf l ∧ LA S' ow1 w.heap j l v) (T := TRel ⟨deep, w0, S, fun q => ow0 q ≠ none, pv⟩ σ w.heap G) (j := 0) (fun x v hx hne => by
    cases x with
    | one l =>
      rcases hx with rfl | hx
      · exact absurd rfl hne
      · exact .inl ⟨l, rfl, hx⟩
    | agg ls => obtain ⟨vs, e, h⟩ := hx; exact .inr ⟨ls, vs, rfl, e, h⟩) hys h2' h3' (fun n l m v e1 e2 e3 => by rw [Nat.zero_add]; exact hleaf n l m v e1 e2 e3)
  have hrun : (results fn a.tmps).run P w = .ok (retV vs) w := by
    unfold results
    rw [Array.mapM_eq_mapM_toList]
    simp only [Sem.run_bind, bind_map_left]
    refine (congrArg (fun r : Result (List Value) => r.andThen _) h1).trans ?_
    simp [Result.andThen, retV]
  have hol : out.leaves = ys.flatMap TV.leaves := by
    obtain rfl := Option.some.inj h
    split
    · exact mkAV_leaves ys
    · rfl
  refine ⟨_, hrun, hs.os, hs.tape, hs.output, hs.size, fun q hq h0 => hs.frame q hq (by simpa using h0), ow1, us, if pv = [] then retV vs else .tuple (vs ++ cs).toArray, how1, ?_, ?_, ?_, ?_⟩
  · intro l hl
    rw [hol] at hl
    obtain ⟨n, hn⟩ := List.getElem?_of_mem hl
    obtain ⟨v, _, hv⟩ := h4.get hn
    exact hv.1
  · rw [hol]
    exact h4.mono fun j l v h => h.2
  · obtain rfl := Option.some.inj h
    have hpin := hs.pin
    generalize σ.pins = pins at hpin p3 hps
    cases hpin with
    | nil =>
      simp only [PinOk] at p3
      subst p3
      rw [if_pos rfl]
      simp only [List.append_nil] at h5
      have hlen := h5.len
      show AVShape (mkAV ys) us (retV vs)
      unfold retV
      cases ys with
      | nil =>
        rw [dif_neg (by rw [← hlen]; simp)]
        exact ⟨vs, rfl, h5⟩
      | cons y ys =>
        cases ys with
        | nil =>
          obtain ⟨u1, u2, v, vs', rfl, rfl, h6, rfl, rfl⟩ := h5
          rw [List.append_nil]
          exact h6
        | cons y' ys =>
          rw [dif_neg (by rw [← hlen]; simp)]
          exact ⟨vs, rfl, h5⟩
    | cons hp1 hp2 =>
      rw [if_neg (by simp)]
      exact ⟨_, rfl, h5⟩
  · have hpin := hs.pin
    by_cases hpv : pv = []
    · exact .inl ⟨hpv, by rw [if_pos hpv]⟩
    · refine .inr ⟨hpv, ys, vs, cs, ?_, rfl, by rw [if_neg hpv], by rw [hol]; exact p3⟩
      obtain rfl := Option.some.inj h
      split
      · rename_i e
        rw [e] at hpin
        have hpin' : All2 (LRel ⟨deep, w0, S, fun q => ow0 q ≠ none, pv⟩ σ w.heap G) [] pv := hpin
        cases hpin'
        exact absurd rfl hpv
      · rfl
/-- A POINTER HANDED BACK. -/
theorem retPtr_ok (hE : EnvOk P E) {deep : Bool} {w0 : World} {S : Nat → Prop} {ow0 : Nat → Option Nat} {pv : List Value} (hs : Sim ⟨deep, w0, S, fun q => ow0 q ≠ none, pv⟩ σ a w G) (hSz : ∀ q, S q → q < w0.heap.size ∧ ow0 q = none)
    {fn : Func} {f : Kd} {out : AV} (h : retPtr E deep f fn σ = some out) : ∃ v, (results fn a.tmps).run P w = .ok v w ∧ Post S ow0 w0 w true pv out v := by
  unfold retPtr at h
  obtain ⟨rs, hrs, h⟩ := Option.bind_eq_some_iff.mp h
  obtain ⟨vs, h1, h2, h3⟩ := resTVs_ok (X := ⟨deep, w0, S, fun q => ow0 q ≠ none, pv⟩) hE hs hrs
  split at h
  · rename_i r hpins
    split at h
    · rename_i g ls hr
      cases hc : decide (g = f) && distinct (backRefs deep σ ls) <;> simp only [hc, cond_true, cond_false] at h
      · cases h
      simp only [Bool.and_eq_true] at hc
      obtain ⟨ms, hms, rfl⟩ := Option.map_eq_some_iff.mp h
      have hp := hs.pin
      rw [hpins] at hp
      have hpv : pv = [] := by
        have hp' : All2 (LRel ⟨deep, w0, S, fun q => ow0 q ≠ none, pv⟩ σ w.heap G) [] pv := hp
        cases hp'; rfl
      subst hpv
      cases h2 with
      | @cons _ v _ vs' h2 h4 =>
      cases h4
      have hl : LRel ⟨deep, w0, S, fun q => ow0 q ≠ none, []⟩ σ w.heap G (.ptr r 0 0) v := by
        rcases h2 with h2 | h2
        · exact absurd h2 (by simp)
        · exact h2
      obtain ⟨b, arr, e, fr, d1, d2, d3, d4, d5, d6⟩ := hs.row _ _ hr
      obtain ⟨b', q1, q2⟩ := hl.2.2 g ls hr
      rw [d1] at q1; simp at q1; subst q1
      have hs' : Sim ⟨deep, w0, S, fun q => ow0 q ≠ none, [v]⟩ { σ with pins := [.ptr r 0 0] } a w G := by
        constructor
        case defs => exact hs.defs
        case len => exact hs.len
        case slot =>
          intro i hi
          have h := hs.slot i hi
          show ARel ⟨deep, w0, S, fun q => ow0 q ≠ none, [v]⟩ { σ with pins := [.ptr r 0 0] } w.heap G (σ.slots.getD i undefAV) (a.tmps.getD i undef)
          revert h
          generalize σ.slots.getD i undefAV = av
          intro h
          cases av with
          | v x => cases x <;> exact h
          | tup ys => exact h
        case row => intro r' row h'; cases row <;> exact hs.row r' _ h'
        case pin => exact .cons hl .nil
        case lt => exact hs.lt
        case ownA => exact hs.ownA
        case size => exact hs.size
        case frame => exact hs.frame
        case os => exact hs.os
        case tape => exact hs.tape
        case output => exact hs.output
        case refs => exact hs.refs
        case prefs =>
          intro l hl' r' hr'
          have e : l = .ptr r 0 0 := by simpa using hl'
          subst e
          have e : r' = r := by simpa [Leaf.refs] using hr'
          subst e
          exact ⟨_, hr⟩
        case rrefs => exact hs.rrefs
      obtain ⟨v', hv', hpost⟩ := retOf_ok (fn := { fn with results := #[] }) (out := .tup [.agg ms]) hE hs' hSz (by
        unfold retOf
        have hr' : St.look { σ with pins := [.ptr r 0 0] } r = some (.box g ls) := hr
        have hb : ∀ ls, backRefs deep { σ with pins := [.ptr r 0 0] } ls = backRefs deep σ ls := by
          intro ls
          induction ls with
          | nil => rfl
          | cons l t ih => cases l <;> simp only [backRefs, ih] <;> rfl
        have hd : distinct (backRefs deep { σ with pins := [.ptr r 0 0] } ls) = true := by rw [hb]; exact hc.2
        have hm : ls.mapM (retLeaf deep (backRefs deep { σ with pins := [.ptr r 0 0] } ls) { σ with pins := [.ptr r 0 0] }) = some ms := by
          rw [hb, ← hms]
          congr 1
        simp [pinTV, hr', TV.leaves, hd, pinBoxes, distinct, TV.mapM, hm, memN])
      refine ⟨v, ?_, hpost.os, hpost.tape, hpost.output, hpost.size, hpost.frame, ?_⟩
      · unfold results
        rw [Array.mapM_eq_mapM_toList]
        simp only [Sem.run_bind, bind_map_left]
        refine (congrArg (fun r : Result (List Value) => r.andThen _) h1).trans ?_
        simp [Result.andThen]
      · obtain ⟨ow1, us, vo, k1, k2, k3, k4, k5⟩ := hpost.ret
        refine ⟨ow1, us, vo, k1, k2, k3, k4, rfl, ?_⟩
        rcases k5 with ⟨k5, _⟩ | ⟨_, ys, rs', cs, k6, k7, k8, k9⟩
        · cases k5
        · subst k8
          obtain ⟨ws, e1, e2⟩ := k4
          have e3 := e2.len
          obtain ⟨c, cs', rfl, e4, _⟩ := k9
          have e4 : cs' = [] := e4
          subst e4
          have e5 : ws = rs' ++ [c] := by
            have := Value.tuple.inj e1
            simpa using congrArg Array.toList this.symm
          subst e5
          simp at e3
          obtain rfl : rs' = [] := by
            cases rs' with
            | nil => rfl
            | cons => simp at e3
          exact ⟨ys, [c], b, k6, q2, rfl, c, [], rfl, rfl, by assumption⟩
    · cases h
  · cases h
/-- a table of loops is right: nothing without a turn left, and each row is a turn -/
structure TabOk (E : Env) (C : CF) (n g : Nat) {T : Type} (W : Tab T) (U : AV → Option T) : Prop where
  zero : ∀ q ∈ W, ∀ js σ, q.2 (0 :: js) σ = none
  turn : ∀ q ∈ W, ∀ js j σ r, q.2 ((j + 1) :: js) σ = some r → turnU E C n g W U q.1 js j σ = some r
theorem partR {C : CF} {d : Bool} {R : Type} {ks : List (Nat × Keep)} {n : Nat} {W : Orc R} {c : Code} {κ0 κ : Ex → St → Option R} : ∀ {p : List Dir} {js : List Nat} {y z : Code}, codeR c p = some y → partAt E C d ks n W c κ0 p js = some (z, κ) → z = y ∧ κ = κ0 ∧ js = [] ∧ allR p
  | [], [], y, z, h1, h2 => by
    simp only [codeR, partAt] at h1 h2
    cases h1; cases h2
    exact ⟨rfl, rfl, rfl, fun _ h => by cases h⟩
  | [], _ :: _, y, z, h1, h2 => by simp only [partAt] at h2; cases h2
  | .r :: p, js, y, z, h1, h2 => by
    simp only [codeR] at h1
    split at h1
    · rename_i x b hx
      obtain rfl := Option.some.inj h1
      simp only [partAt] at h2
      split at h2
      · rename_i x2 y2 κ2 h3
        obtain ⟨e1, e2, e3, e4⟩ := partR hx h3
        cases h2
        cases e1
        exact ⟨rfl, e2, e3, fun d hd => by
          rcases List.mem_cons.mp hd with rfl | hd
          · rfl
          · exact e4 d hd⟩
      · cases h2
    · cases h1
  | .l :: _, _, _, _, h1, _ => by simp only [codeR] at h1; cases h1
  | .t :: _, _, _, _, h1, _ => by simp only [codeR] at h1; cases h1
  | .f :: _, _, _, _, h1, _ => by simp only [codeR] at h1; cases h1
  | .b :: _, _, _, _, h1, _ => by simp only [codeR] at h1; cases h1
  | .p :: _, _, _, _, h1, _ => by simp only [codeR] at h1; cases h1
theorem partR_to {C : CF} {d : Bool} {R : Type} {ks : List (Nat × Keep)} {n : Nat} {W : Orc R} {c : Code} {κ0 : Ex → St → Option R} : ∀ {p : List Dir} {y : Code}, codeR c p = some y → partAt E C d ks n W c κ0 p [] = some (y, κ0)
  | [], y, h1 => by simp only [codeR] at h1; cases h1; rfl
  | .r :: p, y, h1 => by
    simp only [codeR] at h1
    split at h1
    · rename_i x b hx
      obtain rfl := Option.some.inj h1
      simp only [partAt, partR_to hx]
    · cases h1
  | .l :: _, _, h1 => by simp only [codeR] at h1; cases h1
  | .t :: _, _, h1 => by simp only [codeR] at h1; cases h1
  | .f :: _, _, h1 => by simp only [codeR] at h1; cases h1
  | .b :: _, _, h1 => by simp only [codeR] at h1; cases h1
  | .p :: _, _, h1 => by simp only [codeR] at h1; cases h1
/-- A FUNCTION's BODY, with a typed ending. -/
theorem evalBodyU_ok (hE : EnvOk P E) (hQ : EqsOk P E) {C : CF} (hC : CFok P E C) (hD : CFdet C) {n g : Nat} {as : List TV} {T : Type} {W : Tab T} {U : AV → Option T} {r : T} {out : AV} (hU : ∀ o, U o = some r → o = out)
    (hT : TabOk E C n g W U) (h : evalBodyU E C n g W as U = some r) : CallOk P (E.sig g).modes (E.sig g).rbx.isSome g as out := by
  unfold evalBodyU at h
  split at h
  · rename_i fn hfn
    obtain ⟨hf, hname⟩ := hE.fn g fn hfn
    split at h
    · rename_i c hc
      split at h
      · rename_i σ hσ
        refine ⟨fun args w => by simp [callFunc, hf, hc]; simpa using hname, fun w vs S ow0 hS hlt hargs => ?_⟩
        obtain ⟨G, hs⟩ := entry_ok (deep := (E.sig g).deep) hS hlt hargs hσ
        have h0 : ∀ p js σ, orcOf W p (0 :: js) σ = none := by
          intro p js σ
          unfold orcOf
          cases hl : lookP p W with
          | none => rfl
          | some w => exact hT.zero _ (lookP_mem hl) js σ
        have hW : ∀ (d : Bool) p, (if flatAt ((look g E.kpT).getD []) c p = true then false else (E.sig g).deep) = d → ∀ js j σ r, orcOf W p ((j + 1) :: js) σ = some r → turnAt E C d ((look g E.kpT).getD []) n (orcOf W) c (finU E d (E.sig g).rbx (E.sig g).soft fn U) p js j σ = some r := by
          intro d p hd js j σ r h
          unfold orcOf at h
          cases hl : lookP p W with
          | none => rw [hl] at h; cases h
          | some w =>
            rw [hl] at h
            have := hT.turn _ (lookP_mem hl) js j σ r h
            subst hd
            cases hfl : flatAt ((look g E.kpT).getD []) c p
            · rw [if_neg (by simp)]; simpa only [turnU, hfn, hc, hfl] using this
            · rw [if_pos rfl]; simpa only [turnU, hfn, hc, hfl] using this
        have key : ∀ (d : Bool) (e : Ex) σ' a' w' G', Sim ⟨d, w, S, fun q => ow0 q ≠ none, ioVals (E.sig g).modes 0 as vs⟩ σ' a' w' G' → finU E d (E.sig g).rbx (E.sig g).soft fn U e σ' = some r →
            (e.exit' = .normal ∨ e.exit' = .ret) ∧ a'.defers = [] ∧ ∃ v, (results fn a'.tmps).run P w' = .ok v w' ∧ Post S ow0 w w' (E.sig g).rbx.isSome (ioVals (E.sig g).modes 0 as vs) out v := by
          intro d e σ' a' w' G' hs' h'
          have hk : (match (E.sig g).rbx with
              | none => (σ'.freeze (softRows E d fn σ' (E.sig g).soft)).bind fun σ => retOf E d fn σ
              | some f => retPtr E d f fn σ').bind U = some r → a'.defers = [] ∧ ∃ v, (results fn a'.tmps).run P w' = .ok v w' ∧ Post S ow0 w w' (E.sig g).rbx.isSome (ioVals (E.sig g).modes 0 as vs) out v := by
            intro h'
            obtain ⟨o, ho, hUo⟩ := Option.bind_eq_some_iff.mp h'
            generalize (E.sig g).rbx = rb at ho ⊢
            cases rb with
            | none =>
              obtain ⟨ρ, hρ, ho⟩ := Option.bind_eq_some_iff.mp ho
              obtain ⟨v, h1, h2⟩ := retOf_ok hE (hs'.freeze hρ).1 hS ho
              rw [hU o hUo] at h2
              exact ⟨hs'.defs, v, h1, h2⟩
            | some f =>
              obtain ⟨v, h1, h2⟩ := retPtr_ok hE hs' hS ho
              rw [hU o hUo] at h2
              exact ⟨hs'.defs, v, h1, h2⟩
          cases e with
          | normal => exact ⟨.inl rfl, hk h'⟩
          | ret => exact ⟨.inr rfl, hk h'⟩
          | exit id => cases h'
        refine calls_of_wp hf hc ?_
        generalize hQ0 : bodyPost P fn _ = Q0
        have fin : ∀ (d : Bool) (e : Ex) σ' a' w' G', Sim ⟨d, w, S, fun q => ow0 q ≠ none, ioVals (E.sig g).modes 0 as vs⟩ σ' a' w' G' → finU E d (E.sig g).rbx (E.sig g).soft fn U e σ' = some r → Q0 e.exit' a' w' := by
          intro d e σ' a' w' G' hs' h'
          obtain ⟨k1, k2⟩ := key d e σ' a' w' G' hs' h'
          subst hQ0
          rcases k1 with k1 | k1 <;> rw [k1] <;> exact k2
        have hnr : ∀ (b : Bool) (d : Dir) (p : List Dir), flatAt ((look g E.kpT).getD []) c p = b → d ≠ .r → flatAt ((look g E.kpT).getD []) c (d :: p) = b := by
          intro b d p hp hne
          cases d <;> first | exact absurd rfl hne | exact hp
        refine evalCode_ok (X := ⟨(E.sig g).deep, w, S, fun q => ow0 q ≠ none, ioVals (E.sig g).modes 0 as vs⟩) (r := r) (D := fun p => flatAt ((look g E.kpT).getD []) c p = false) (Q0 := Q0) hE hQ hC hD h0 (fun p hp => hW _ p (by rw [hp]; rfl)) (fun d p => hnr false d p)
          (fun p x y κ js hp hpart => ?_) (js := []) (p := []) rfl (fun _ => rfl) rfl (fun e σ' a' w' G' => fin _ e σ' a' w' G') hs h
        cases hfl : flatAt ((look g E.kpT).getD []) c (.r :: p)
        · exact .inl rfl
        right
        have hfl' := hfl
        simp only [flatAt, hp, Bool.false_or] at hfl
        split at hfl
        · rename_i y' hy'
          simp only [codeR] at hy'
          split at hy'
          · rename_i x' y2 hx'
            obtain rfl := Option.some.inj hy'
            obtain ⟨e1, e2, e3, e4⟩ := partR hx' hpart
            cases e1
            subst e2 e3
            have hcut : ∃ k, cutOf ((look g E.kpT).getD []) y = some k := by
              unfold isSoft at hfl
              cases hk : cutOf ((look g E.kpT).getD []) y with
              | none => rw [hk] at hfl; cases hfl
              | some k => exact ⟨k, rfl⟩
            refine ⟨e4, hcut, fun σ2 a2 w2 G2 hs2 hno hw2 => ?_⟩
            obtain ⟨G3, hs3⟩ := hs2.soften hno
            have h2 := hW false (.r :: p) (by rw [hfl']; rfl) [] 0 σ2 r hw2
            have hpr : partAt E C false ((look g E.kpT).getD []) n (orcOf W) c (finU E false (E.sig g).rbx (E.sig g).soft fn U) (.r :: p) [] = some (y, finU E false (E.sig g).rbx (E.sig g).soft fn U) := by
              simp only [partAt, partR_to hx']
            refine evalCode_ok (X := ⟨false, w, S, fun q => ow0 q ≠ none, ioVals (E.sig g).modes 0 as vs⟩) (r := r) (D := fun p => flatAt ((look g E.kpT).getD []) c p = true) (Q0 := Q0) hE hQ hC hD h0 (fun p hp => hW _ p (by rw [hp]; rfl)) (fun d p => hnr true d p)
              (fun p x y κ js hp hpart => .inl (by show flatAt _ c (.r :: p) = true; simp only [flatAt, hp, Bool.true_or])) (js := []) (p := .r :: p) hfl' (fun _ => rfl) hpr (fun e σ' a' w' G' => fin _ e σ' a' w' G') hs3 ?_
            simp only [turnAt, hpr] at h2
            obtain ⟨k, hk⟩ := hcut
            cases y <;> first | (simp only [cutOf] at hk; cases hk; done) | exact h2
          · cases hy'
        · cases hfl
      · cases h
    · cases h
  · cases h
end
end Go.Proofs.Ytalmhjlcjcnidaa.Ev

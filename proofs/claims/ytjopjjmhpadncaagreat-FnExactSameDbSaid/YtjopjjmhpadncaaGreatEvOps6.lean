/- Append, make, literals, variables: the operations. -/
import Derived.Test.YtjopjjmhpadncaaGreatEvOps5
import Derived.IntWalk
set_option linter.all false
namespace Go.Proofs.YtjopjjmhpadncaaGreat.Ev
open Go
section
variable {P : Program} {E : Env} {X : Ctx} {σ σ' : St} {a : Act} {w w' : World} {G : Gh}
theorem opAppend_ok (hE : EnvOk P E) (hs : Sim X σ a w G) {o : Oper} {c : Call} {x y : Operand} {t u : TypeId} {ts : List TypeId} (ho : o.op = .call c) (hc : c.callee = .builtin .append)
    (hargs : c.args.toList = [x, y]) (hts : c.argTypes.toList = t :: u :: ts) (h : opAppend E X.deep o t u x y σ = some (true, σ')) : OpOK P X o σ' a w := by
  unfold opAppend at h
  cases hu : E.isSl u || E.isStr u <;> simp only [hu, cond_true, cond_false] at h
  · cases h
  have hn : (∃ e', P.underlying u = some (.slice e')) ∨ P.underlying u = some .string := by
    rcases Bool.or_eq_true_iff.mp hu with h | h
    · exact .inl (hE.isSl h)
    · exact .inr (hE.isStr h)
  split at h
  · rename_i e d s hel hx hy
    obtain ⟨f, eb⟩ := e
    obtain ⟨⟨ys, used⟩, hsrc, h0⟩ := Option.bind_eq_some_iff.mp h
    clear h
    dsimp only at hsrc h0
    obtain ⟨et, hut, he⟩ := hE.el hel
    have hsu : s ≠ .undef := by rintro rfl; simp [srcOf, roLeaf] at hsrc
    obtain ⟨k1, k2, k3⟩ := srcOf_ok (P := P) hs hsrc (hs.ev1 hy hsu).1
    cases d with
    | nil =>
      dsimp only at h0
      have hv := (hs.ev1 hx (by simp)).1
      simp only [LRel] at hv
      cases hd : distinct used <;> simp only [hd, cond_true, cond_false] at h0
      · cases h0
      obtain ⟨τ, h1, h2⟩ := Option.bind_eq_some_iff.mp h0
      obtain ⟨hr, rfl⟩ := Prod.mk.inj (Option.some.inj h2)
      exact append_core hs (xs := []) (dst := []) hut he hn ho hc (arr_two hargs) (arr_head hts) (arr_second hts) hv (.inl ⟨rfl, rfl, rfl⟩) (by simp) k1 k2 k3 (by simp) (by simpa using hr) (by simpa using h1)
    | ow r =>
      dsimp only at h0
      split at h0
      · rename_i g xs hr
        split at h0
        · rename_i e; subst e
          cases hd : distinct (r :: used) <;> simp only [hd, cond_true, cond_false] at h0
          · cases h0
          obtain ⟨τ, h1, h2⟩ := Option.bind_eq_some_iff.mp h0
          obtain ⟨hro, rfl⟩ := Prod.mk.inj (Option.some.inj h2)
          have hv := (hs.ev1 hx (by simp)).1.2 g xs (St.dat_of hr)
          obtain ⟨p, cap, e⟩ := (hs.row r _ hr).hvVal
          have hd' := distinct_append (u := [r]) (v := used) hd
          exact append_core hs (xs := xs) (dst := [r]) hut he hn ho hc (arr_two hargs) (arr_head hts) (arr_second hts) (by rw [hv, e]) (.inr ⟨r, by simp, hr, e⟩) (by simpa using ⟨g, xs, hr⟩) k1 k2 k3 hd'.2.2 hro h1
        · cases h0
      · cases h0
    | _ => cases h0
  · cases h
theorem alloc_old (w : World) (o : Obj) {q : Nat} (hq : q < w.heap.size) : (w.alloc o).heap[q]? = w.heap[q]? := by
  show (w.heap.push o)[q]? = _
  rw [Array.getElem?_push, if_neg (by omega)]
theorem alloc_new (w : World) (o : Obj) : (w.alloc o).heap[w.heap.size]? = some o := by
  show (w.heap.push o)[w.heap.size]? = _
  simp
theorem opMakeSlice_ok (hE : EnvOk P E) (hs : Sim X σ a w G) {o : Oper} {t : TypeId} {x y : Operand} (ho : o.op = .makeSlice t x y) (h : opMakeSlice E o t x y σ = some (true, σ')) : OpOK P X o σ' a w := by
  unfold opMakeSlice at h
  split at h
  · rename_i e n m hel hx hy
    obtain ⟨f, eb⟩ := e
    obtain ⟨τ, h1, h2⟩ := Option.bind_eq_some_iff.mp h
    obtain ⟨hr, rfl⟩ := Prod.mk.inj (Option.some.inj h2)
    simp only [Bool.and_eq_true, decide_eq_true_eq] at hr
    obtain ⟨⟨rfl, hn0⟩, hroom⟩ := hr
    obtain ⟨r1, r2⟩ := room_iff hroom
    obtain ⟨et, hut, j, z, hj, hsz, hby, hz, hzc⟩ := hE.el hel
    have hvx := (hs.ev1 hx (by simp)).1
    have hvy := (hs.ev1 hy (by simp)).1
    simp only [LRel] at hvx hvy
    obtain ⟨k, rfl⟩ : ∃ k : Nat, n = (k : Int) := ⟨n.toNat, by omega⟩
    simp only [Int.toNat_natCast] at r1 r2 h1
    have hzs : z.cells.size = f.size := by rw [← Array.length_toList, hzc, zeroVals_len]
    have hwrap : IntKind.i64.wrap (k : Int) = k := IntWalk.i64_in _ (by omega)
    have hlarge : ¬ (281474976710656 : Int) < (j.bytes : Int) * (k : Int) := by
      rw [hby, Int.mul_comm]
      have : ((k * eb : Nat) : Int) ≤ ((140737488355328 : Nat) : Int) := Int.ofNat_le.mpr r1
      rw [Int.natCast_mul] at this; omega
    have hz2 : ∀ w2 : World, (zeroValue et).run P w2 = .ok z w2 := fun w2 => by simp [zeroValue, run_typeInfo hj, hz]
    have hrun : ∃ arr : Array Value, (execOp a.eval o).run P w = .ok (.value (.slice (some ⟨w.heap.size, 0, none⟩) k k)) (w.alloc (.cells arr et)) ∧ arr.size = k * f.size ∧ ∀ q, q < k * f.size → arr[q]? = some (z.cells[q % z.cells.size]!) := by
      by_cases hk : k = 0
      · subst hk
        refine ⟨#[], ?_, by simp, fun q hq => by omega⟩
        have hw0 : IntKind.i64.wrap 0 = 0 := IntWalk.i64_in _ (by omega)
        simp [execOp, ho, hvx, hvy, Instr.makeSlice, underlying, hut, asInt, asIntOf, run_typeInfo hj, run_sizeOf hj, hw0, newRow]
        rw [show (Array.range 0) = #[] from Array.eq_empty_of_size_eq_zero (by simp), Array.map_empty]
      · have hks : ¬ k * f.size = 0 := fun h => by have := f.size_pos; rcases Nat.mul_eq_zero.mp h with h | h <;> omega
        refine ⟨(Array.range (k * f.size)).map (fun q => z.cells[q % z.cells.size]!), ?_, by simp, fun q hq => by simp [hq]⟩
        simp [execOp, ho, hvx, hvy, Instr.makeSlice, underlying, hut, asInt, asIntOf, run_typeInfo hj, run_sizeOf hj, hsz, hwrap, hlarge, hks, newRow, hz2]
        intro h; omega
    obtain ⟨arr, hrun, hasz, harr⟩ := hrun
    have h1' : (σ.kill []).fresh o 0 f (List.replicate k f.zero) = some τ := h1
    refine OpOK.fresh hs (used := []) (own := []) (by simp) h1' hrun rfl (by simp) rfl rfl rfl (fun q hq _ => alloc_old w _ hq) (fun nn => ?_)
    have hel2 := newData (w' := w.alloc (.cells arr et)) hs (used := []) (own := []) (n := nn) (by simp) (xs := List.replicate k f.zero) (arr := arr) (e := et) (fr := (0, 0)) (cap := k) (by simp) (by simp)
      (alloc_new w _) (fun q hq => alloc_old w _ hq) (by simp) hasz NK.new (ow := fun _ => 0) (fun i x hx => by
        obtain ⟨hi, hx'⟩ := List.getElem?_eq_some_iff.mp hx
        simp at hi hx'
        subst hx'
        have hsg := zeroSeg (z := z.cells) hzc hi arr harr
        rw [hsg]
        exact (zero_rel (S := fun _ => False) f).mono (fun _ h => h.elim))
    simpa using hel2
  · cases h
/-! ### literals -/
theorem foldl_put : ∀ (l : List Value) (k off : Nat) (cs : Array Value), off + k + l.length ≤ cs.size →
    ((l.zipIdx k).foldl (fun cs (p : Value × Nat) => cs.setIfInBounds (off + p.2) p.1) cs).size = cs.size ∧
    ∀ j, ((l.zipIdx k).foldl (fun cs (p : Value × Nat) => cs.setIfInBounds (off + p.2) p.1) cs)[j]? = if off + k ≤ j ∧ j < off + k + l.length then l[j - (off + k)]? else cs[j]? := by
  intro l
  induction l with
  | nil => intro k off cs _; exact ⟨rfl, fun j => by rw [if_neg (by simp)]; rfl⟩
  | cons v l ih =>
    intro k off cs h
    simp only [List.length_cons] at h
    simp only [List.zipIdx_cons, List.foldl_cons]
    obtain ⟨h1, h2⟩ := ih (k + 1) off (cs.setIfInBounds (off + k) v) (by simp; omega)
    refine ⟨by rw [h1]; simp, fun j => ?_⟩
    rw [h2 j]
    by_cases hj : j = off + k
    · subst hj
      rw [if_neg (by omega), if_pos (by simp)]
      simp [show off + k < cs.size by omega]
    · by_cases hj2 : off + (k + 1) ≤ j ∧ j < off + (k + 1) + l.length
      · rw [if_pos hj2, if_pos (by simp; omega)]
        have : j - (off + k) = (j - (off + (k + 1))) + 1 := by omega
        rw [this, List.getElem?_cons_succ]
      · rw [if_neg hj2, if_neg (by simp; omega), Array.getElem?_setIfInBounds_ne (by omega)]
theorem fill_put (v : Value) (off : Nat) (cs : Array Value) (h : off + v.cells.size ≤ cs.size) :
    (v.cells.zipIdx.foldl (fun cs (p : Value × Nat) => cs.setIfInBounds (off + p.2) p.1) cs).size = cs.size ∧
    ∀ j, (v.cells.zipIdx.foldl (fun cs (p : Value × Nat) => cs.setIfInBounds (off + p.2) p.1) cs)[j]? = if off ≤ j ∧ j < off + v.cells.size then v.cells[j - off]? else cs[j]? := by
  have := foldl_put v.cells.toList 0 off cs (by simpa using h)
  rw [← Array.foldl_toList]
  simpa using this
theorem fill_seq {sz : Nat} : ∀ (pv : List (Nat × Value)) (n : Nat) (cs : Array Value), (∀ k p, pv[k]? = some p → p.1 = n + k ∧ p.2.cells.size = sz) → (n + pv.length) * sz ≤ cs.size →
    ∃ cs', Instr.fill (fun i => some (i * sz, sz)) cs pv = some cs' ∧ cs'.size = cs.size ∧
      ∀ j, cs'[j]? = if n * sz ≤ j ∧ j < (n + pv.length) * sz then (pv.flatMap (·.2.cells.toList))[j - n * sz]? else cs[j]? := by
  intro pv
  induction pv with
  | nil => intro n cs _ _; exact ⟨cs, rfl, rfl, fun j => by rw [if_neg (by simp)]⟩
  | cons p pv ih =>
    intro n cs hp hle
    obtain ⟨i, v⟩ := p
    obtain ⟨hi, hv⟩ := hp 0 (i, v) rfl
    obtain rfl : n = i := hi.symm
    simp only [List.length_cons] at hle hp
    have hle' : n * sz + sz + pv.length * sz ≤ cs.size := by
      rw [show n + (pv.length + 1) = n + 1 + pv.length by omega, Nat.add_mul, Nat.add_mul, Nat.one_mul] at hle; exact hle
    dsimp only at hv
    obtain ⟨h1, h2⟩ := fill_put v (n * sz) cs (by omega)
    obtain ⟨cs', k1, k2, k3⟩ := ih (n + 1) _ (fun k p hk => by have := hp (k + 1) p (by simpa using hk); exact ⟨by omega, this.2⟩) (by rw [h1, Nat.add_mul, Nat.add_mul, Nat.one_mul]; exact hle')
    refine ⟨cs', ?_, by rw [k2, h1], fun j => ?_⟩
    · simp only [Instr.fill]
      rw [if_neg (by simp only [hv]; simp; omega)]
      exact k1
    · have e1 : (n + 1) * sz = n * sz + sz := by rw [Nat.add_mul, Nat.one_mul]
      have e2 : (n + 1 + pv.length) * sz = n * sz + sz + pv.length * sz := by rw [Nat.add_mul, Nat.add_mul, Nat.one_mul]
      have e3 : (n + (pv.length + 1)) * sz = n * sz + sz + pv.length * sz := by rw [← e2]; congr 1; omega
      rw [k3 j, e1, e2]
      simp only [List.length_cons, e3, List.flatMap_cons]
      by_cases hj : n * sz + sz ≤ j ∧ j < n * sz + sz + pv.length * sz
      · rw [if_pos hj, if_pos (by omega), List.getElem?_append_right (by simp [hv]; omega)]
        simp only [Array.length_toList, hv]
        congr 1; omega
      · rw [if_neg hj, h2 j, hv]
        by_cases hj2 : n * sz ≤ j ∧ j < n * sz + sz
        · rw [if_pos hj2, if_pos (by omega), List.getElem?_append_left (by simp [hv]; omega)]
          simp
        · rw [if_neg hj2, if_neg (by omega)]
/-- the elements of a literal, and their cells -/
theorem elemsOf_rel (hs : Sim X σ a w G) {f : Kd} : ∀ {parts : List (Nat × Operand)} {n : Nat} {xs : List f.T} {used : List Nat}, elemsOf X.deep σ f n parts = some (xs, used) → distinct used = true →
    parts.length = xs.length ∧ (∀ k p, (parts.map fun q => (q.1, a.eval q.2))[k]? = some p → p.1 = n + k ∧ p.2.cells.size = f.size) ∧ (∀ r ∈ used, ∃ g ys, σ.look r = some (.data g ys)) ∧
    ∃ own : Nat → Nat, ∀ (i : Nat) (x : f.T), xs[i]? = some x → CRel X.deep w.heap f x ((((parts.map fun q => (q.1, a.eval q.2)).flatMap (·.2.cells.toList)).drop (i * f.size)).take f.size)
      (fun q => OSet X σ w.heap G used q ∧ (X.deep = true → own q = i)) := by
  intro parts
  induction parts with
  | nil =>
    intro n xs used h _
    simp only [elemsOf] at h
    obtain ⟨rfl, rfl⟩ := Prod.mk.inj (Option.some.inj h)
    exact ⟨rfl, by simp, by simp, fun _ => 0, by simp⟩
  | cons p parts ih =>
    intro n xs used h hd
    obtain ⟨i, x⟩ := p
    simp only [elemsOf] at h
    cases hb : Nat.beq i n <;> simp only [hb, cond_true, cond_false] at h
    · cases h
    have hin : i = n := Nat.eq_of_beq_eq_true hb
    subst hin
    split at h
    · rename_i y hy
      obtain ⟨⟨z, u1, rest⟩, hz, h⟩ := Option.bind_eq_some_iff.mp h
      dsimp only at h
      split at h
      · rename_i hrest
        obtain ⟨⟨zs, u2⟩, hzs, h⟩ := Option.bind_eq_some_iff.mp h
        obtain ⟨rfl, rfl⟩ := Prod.mk.inj (Option.some.inj h)
        dsimp only at hd ⊢
        obtain ⟨d1, d2, d3⟩ := distinct_append hd
        obtain ⟨_, hall, hrefs⟩ := hs.evT hy
        obtain ⟨v1, v2, hv, hrest, hc, k3, k4, k5⟩ := ofLeaves_rel hs hz hall d1
        cases hrest
        rw [List.append_nil] at hv
        obtain ⟨m1, m2, m3, own, m4⟩ := ih hzs d2
        have hsz : (a.eval x).cells.size = f.size := by rw [← Array.length_toList, hv, hc.len]
        refine ⟨by simp [m1], ?_, ?_, fun q => match G.rt q with | some r => if r ∈ u1 then 0 else own q + 1 | none => 0, ?_⟩
        · intro k p hk
          cases k with
          | zero => simp at hk; subst hk; exact ⟨rfl, hsz⟩
          | succ k => have := m2 k p (by simpa using hk); exact ⟨by omega, this.2⟩
        · intro r hr
          rcases List.mem_append.mp hr with hr | hr
          · exact k3 r hr
          · exact m3 r hr
        · intro k y hk
          cases k with
          | zero =>
            simp at hk; subst hk
            simp only [List.map_cons, List.flatMap_cons, Nat.zero_mul, List.drop_zero, hv]
            rw [List.take_left' hc.len]
            refine hc.mono fun q hq => ⟨hq.mono fun r hr => List.mem_append_left _ hr, fun hdp => ?_⟩
            rcases hq with ⟨r, hr, e⟩ | ⟨hf, _⟩
            · simp [e, hr]
            · rw [hdp] at hf; cases hf
          | succ k =>
            have := m4 k y (by simpa using hk)
            simp only [List.map_cons, List.flatMap_cons]
            rw [Nat.add_mul, Nat.one_mul, Nat.add_comm (k * f.size), ← List.drop_drop, List.drop_left' (by rw [Array.length_toList]; exact hsz)]
            refine this.mono fun q hq => ⟨hq.1.mono fun r hr => List.mem_append_right _ hr, fun hdp => ?_⟩
            rcases hq.1 with ⟨r, hr, e⟩ | ⟨hf, _⟩
            · simp only [e, if_neg (fun h => d3 r h hr)]; rw [hq.2 hdp]
            · rw [hdp] at hf; cases hf
      · cases h
    · cases h
theorem opBuildSlice_ok (hE : EnvOk P E) (hs : Sim X σ a w G) {o : Oper} {t : TypeId} {n : Nat} {ps : Array (Nat × Operand)} (ho : o.op = .buildSlice t n ps) (h : opBuildSlice E X.deep o t n ps σ = some (true, σ')) :
    OpOK P X o σ' a w := by
  unfold opBuildSlice at h
  obtain ⟨f, hf, h⟩ := Option.bind_eq_some_iff.mp h
  obtain ⟨⟨xs, used⟩, hxs, h⟩ := Option.bind_eq_some_iff.mp h
  dsimp only at h
  cases hl : Nat.beq xs.length n && Nat.ble (n * f.size) 16777216 <;> simp only [hl, cond_true, cond_false] at h
  · cases h
  cases hd : distinct used <;> simp only [hd, cond_true, cond_false] at h
  · cases h
  obtain ⟨τ, h1, h2⟩ := Option.bind_eq_some_iff.mp h
  obtain ⟨_, rfl⟩ := Prod.mk.inj (Option.some.inj h2)
  simp only [Bool.and_eq_true] at hl
  have hlen : xs.length = n := Nat.eq_of_beq_eq_true hl.1
  have hbig := Nat.ble_true hl.2
  obtain ⟨e, i, hti, hu, j, z, hj, hsz, hby, hz, hzc⟩ := hE.elemKd hf
  obtain ⟨m1, m2, m3, own, m4⟩ := elemsOf_rel hs hxs hd
  have hzs : z.cells.size = f.size := by rw [← Array.length_toList, hzc, zeroVals_len]
  have hps : (ps.map fun q => (q.1, a.eval q.2)).toList = ps.toList.map fun q => (q.1, a.eval q.2) := by simp
  have hz2 : ∀ w2 : World, (zeroValue e).run P w2 = .ok z w2 := fun w2 => by simp [zeroValue, run_typeInfo hj, hz]
  obtain ⟨cs', k1, k2, k3⟩ := fill_seq (ps.toList.map fun q => (q.1, a.eval q.2)) 0 ((Array.range (n * f.size)).map fun q => z.cells[q % z.cells.size]!) m2 (by simp only [List.length_map, m1, hlen]; simp)
  have hcs : cs'.size = n * f.size := by rw [k2]; simp
  have hrun : (execOp a.eval o).run P w = .ok (.value (.slice (some ⟨w.heap.size, 0, none⟩) n n)) (w.alloc (.cells cs' e)) := by
    have hr0 : ∀ g : Nat → Value, (Array.range 0).map g = #[] := fun g => Array.eq_empty_of_size_eq_zero (by simp)
    have : (Instr.buildSlice t n (ps.map fun q => (q.1, a.eval q.2))).run P w = .ok (.slice (some ⟨w.heap.size, 0, none⟩) n n) (w.alloc (.cells cs' e)) := by
      unfold Instr.buildSlice
      simp [underlying, hu, run_sizeOf hj, hsz]
      rw [if_neg (by omega)]
      by_cases hk : n * f.size = 0
      · rw [if_pos hk]
        rw [hk, hr0] at k1 ⊢
        simp [k1, Go.newRow]
      · rw [if_neg hk, hz2]
        simp [k1, Go.newRow]
    simp only [execOp, ho]
    simp [this]
  refine OpOK.fresh hs (used := used) (own := if X.deep = true then used else []) m3 h1 hrun rfl (by simp) rfl rfl rfl (fun q hq _ => alloc_old w _ hq) (fun nn => ?_)
  have := newData (w' := w.alloc (.cells cs' e)) hs (used := used) (own := if X.deep = true then used else []) (n := nn) m3 (xs := xs) (arr := cs') (e := e) (fr := (0, 0)) (cap := n)
    (fun r hr hd => by rw [if_pos hd]; exact hr) (fun hd r _ _ => by rw [hd]; simp) (alloc_new w _) (fun q hq => alloc_old w _ hq) (by omega) hcs NK.new (ow := own) (fun i x hx => by
      have hi : i < n := by rw [← hlen]; exact (List.getElem?_eq_some_iff.mp hx).1
      have e1 : seg cs' (i * f.size) f.size = (((ps.toList.map fun q => (q.1, a.eval q.2)).flatMap (·.2.cells.toList)).drop (i * f.size)).take f.size := by
        refine seg_list fun q hq => ?_
        have := mul_step (n := n) hi hq
        rw [k3, if_pos (by simp only [List.length_map, m1, hlen, Nat.zero_add]; omega), Nat.zero_mul, Nat.sub_zero]
      rw [e1]
      exact m4 i x hx)
  rw [hlen] at this
  exact this
end
end Go.Proofs.YtjopjjmhpadncaaGreat.Ev

/- More operations that only compute. -/
import Derived.Test.YtalmhjlcjcnidaaEvOps1
import Derived.WalkLawsBesides
set_option linter.all false
namespace Go.Proofs.Ytalmhjlcjcnidaa.Ev
open Go

/-- cell by cell: are two structs of plain cells the same? -/
def sameV : List Value → List Value → Option Bool
  | [], [] => some true
  | .int k a :: s, .int j b :: t => bif decide (k = j) then (sameV s t).map fun e => (a == b && e) else none
  | .bool a :: s, .bool b :: t => (sameV s t).map fun e => (a == b && e)
  | .string a :: s, .string b :: t => (sameV s t).map fun e => (a.toList == b.toList && e)
  | _, _ => none
/-- plain cells of a kind without slices -/
def FlatV : Kd → List Value → Prop
  | .int k, vs => ∃ n, vs = [.int k n]
  | .bool, vs => ∃ b, vs = [.bool b]
  | .str, vs => ∃ s, vs = [.string s]
  | .sl _, _ => False
  | .pair a b, vs => ∃ v1 v2, vs = v1 ++ v2 ∧ FlatV a v1 ∧ FlatV b v2
def EqOk (P : Program) (t : TypeId) (f : Kd) : Prop :=
  ∀ (us vs : List Value) (e : Bool) (x y : Operand) (w : World), sameV us vs = some e → FlatV f us → FlatV f vs →
    (eqGuard .eql t x y (.agg us.toArray) (.agg vs.toArray)).run P w = .ok () w ∧ (eqGuard .neq t x y (.agg us.toArray) (.agg vs.toArray)).run P w = .ok () w ∧
    (Op.equal t (.agg us.toArray) (.agg vs.toArray)).run P w = .ok e w

def EqsOk (P : Program) (E : Env) : Prop := ∀ t i, memN t E.eqT = true → E.ty t = some i → EqOk P t i.kd
section
variable {P : Program} {E : Env} {X : Ctx} {σ σ' : St} {a : Act} {w : World} {G : Gh}
theorem bt_eq {s : ByteArray} {n : Int} (h : inR n s.size = true) : ∃ b, s[n.toNat]? = some b ∧ 0 ≤ n ∧ (b.toNat : Int) = bt s n := by
  simp only [inR, decide_eq_true_eq] at h
  have hlt : n.toNat < s.size := by omega
  exact ⟨s[n.toNat], getElem?_pos s n.toNat hlt, h.1, by simp [bt, hlt]⟩
theorem opIndex_ok (hE : EnvOk P E) (hs : Sim X σ a w G) {o : Oper} {t : TypeId} {x i : Operand} (ho : o.op = .index t x i) (h : opIndex E o t x i σ = some (true, σ')) : OpOK P X o σ' a w := by
  unfold opIndex at h
  split at h
  · rename_i k n s hi hx
    cases ht : E.isStr t <;> simp only [ht, cond_true, cond_false] at h
    · cases h
    obtain ⟨hr, rfl⟩ := Prod.mk.inj (Option.some.inj h)
    obtain ⟨b, hb, h0, hbt⟩ := bt_eq hr
    have h1 := (hs.ev1 hi (by simp)).1
    have h2 := (hs.ev1 hx (by simp)).1
    simp only [LRel] at h1 h2
    refine OpOK.put hs (v := .int .u8 (bt s n)) ?_ (Or.inr rfl) (by simp [AV.refs, AV.leaves, TV.leaves, Leaf.refs])
    simp [execOp, ho, h1, h2, Instr.index, asIntOf, underlying, hE.isStr ht, h0, hb, hbt]
  · cases h
theorem opNilCheck_ok (hs : Sim X σ a w G) {o : Oper} {x : Operand} (ho : o.op = .nilCheck x) (h : opNilCheck o x σ = some (true, σ')) : OpOK P X o σ' a w := by
  unfold opNilCheck at h
  split at h
  · rename_i r i c hx
    obtain ⟨h1, h2⟩ := hs.ev1 hx (by simp)
    split at h
    · rename_i f xs hr
      obtain ⟨_, b, n, cap, _, e⟩ := h1.2.1 f xs (St.dat_of hr)
      exact OpOK.one hs h (v := a.eval x) (by simp [execOp, ho, e]) h1 h2
    · rename_i f ls hr
      obtain ⟨b, _, e⟩ := h1.2.2 f ls hr
      exact OpOK.one hs h (v := a.eval x) (by simp [execOp, ho, e]) h1 h2
    · rename_i f xs i0 c0 n0 hr
      obtain ⟨_, b, n, cap, _, e⟩ := h1.2.1 f xs (St.dat_hol hr)
      exact OpOK.one hs h (v := a.eval x) (by simp [execOp, ho, e]) h1 h2
    · cases h
  · rename_i f y c hx
    obtain ⟨h1, h2⟩ := hs.ev1 hx (by simp)
    have h1' := h1
    obtain ⟨b, q, arr, e, fr, e1, _⟩ := h1
    exact OpOK.one hs h (v := a.eval x) (by simp [execOp, ho, e1]) h1' h2
  · rename_i g cs hx
    obtain ⟨h1, h2⟩ := hs.ev1 hx (by simp)
    have h1' := h1
    obtain ⟨vs, e1, _⟩ := h1
    exact OpOK.one hs h (v := a.eval x) (by simp [execOp, ho, e1]) h1' h2
  · cases h
theorem opMax_ok (hs : Sim X σ a w G) {o : Oper} {c : Call} {x y : Operand} (ho : o.op = .call c) (hc : c.callee = .builtin .max) (hargs : c.args.toList = [x, y]) (h : opMax o x y σ = some (true, σ')) : OpOK P X o σ' a w := by
  unfold opMax at h
  split at h
  · rename_i k p j q hx hy
    have h1 := (hs.ev1 hx (by simp)).1
    have h2 := (hs.ev1 hy (by simp)).1
    simp only [LRel] at h1 h2
    have hargs' : c.args = #[x, y] := by rw [← Array.toArray_toList (xs := c.args), hargs]
    refine OpOK.one hs h (v := .int k (bif decide (p < q) then q else p)) ?_ rfl (by simp [Leaf.refs])
    have e : (bif decide (p < q) then q else p) = if q > p then q else p := by
      by_cases hpq : p < q <;> simp [hpq]
    simp [execOp, ho, resolve, hc, hargs', h1, h2, invoke, builtin, run_max_int2, e]
  · cases h
theorem arr_one {α : Type} {c : Array α} {x : α} (h : c.toList = [x]) : c = #[x] := by rw [← Array.toArray_toList (xs := c), h]
theorem arr_two {α : Type} {c : Array α} {x y : α} (h : c.toList = [x, y]) : c = #[x, y] := by rw [← Array.toArray_toList (xs := c), h]
theorem arr_head {α : Type} {c : Array α} {x : α} {t : List α} (h : c.toList = x :: t) : c[0]? = some x := by rw [← Array.getElem?_toList, h]; rfl
theorem arr_second {α : Type} {c : Array α} {x y : α} {t : List α} (h : c.toList = x :: y :: t) : c[1]? = some y := by rw [← Array.getElem?_toList, h]; rfl
theorem CRel.slVal {o : Bool} {h : Array Obj} {f : Kd} {xs : List f.T} {v : Value} {S : Nat → Prop} (hc : CRel o h (.sl f) xs [v] S) : ∃ p c, v = .slice p xs.length c := by
  simp only [CRel] at hc
  rcases hc with ⟨rfl, p, c, e, _⟩ | ⟨b, off, cap, arr, e, fr, ow, e1, _⟩
  · simp at e; exact ⟨p, c, e⟩
  · simp at e1; exact ⟨_, _, e1⟩
theorem RowRel.hvVal {r : Nat} {f : Kd} {xs : List f.T} {h : Array Obj} (hr : RowRel X σ h G r (.data f xs)) : ∃ p c, G.hv r = .slice p xs.length c := by
  rcases hr with ⟨rfl, e⟩ | ⟨b, cap, arr, e, fr, ow, e1, _⟩
  · exact ⟨none, 0, e⟩
  · exact ⟨_, _, e1⟩
theorem run_len_slice {t : TypeId} {e : TypeId} (hu : P.underlying t = some (.slice e)) {ts : Array TypeId} (ht : ts[0]? = some t) {ty : TypeId} {p : Option Addr} {n c : Nat} :
    (Builtin.len_ ts ty #[.slice p n c]).run P w = .ok (.int .i64 n) w := by
  simp [Builtin.len_, ht, underlying, hu, goInt]
theorem run_len_string {t : TypeId} (hu : P.underlying t = some .string) {ts : Array TypeId} (ht : ts[0]? = some t) {ty : TypeId} {s : ByteArray} :
    (Builtin.len_ ts ty #[.string s]).run P w = .ok (.int .i64 s.size) w := by
  simp [Builtin.len_, ht, underlying, hu, goInt]
theorem shLeaves_len : ∀ (f : Kd) (x : f.T), (shLeaves f x).length = f.size
  | .int _, _ => rfl
  | .bool, _ => rfl
  | .str, _ => rfl
  | .sl _, _ => rfl
  | .pair a b, p => by simp [shLeaves, Kd.size, shLeaves_len a p.1, shLeaves_len b p.2]
theorem owLeaves_len (r i : Nat) : ∀ (f : Kd) (x : f.T) (c : Nat), (owLeaves r i f x c).length = f.size
  | .int _, _, _ => rfl
  | .bool, _, _ => rfl
  | .str, _, _ => rfl
  | .sl _, _, _ => rfl
  | .pair a b, p, c => by simp [owLeaves, Kd.size, owLeaves_len r i a p.1, owLeaves_len r i b p.2]
/-- the slice in cell c of an element, in memory -/
theorem CRel.cell {o : Bool} {h : Array Obj} : ∀ {f : Kd} {x : f.T} {vs : List Value} {S : Nat → Prop} {c : Nat} {g : Kd} {ys : List g.T}, CRel o h f x vs S → cellSl f x c = some ⟨g, ys⟩ →
    ∃ v, vs[c]? = some v ∧ ∃ S', (∀ q, S' q → S q) ∧ CRel o h (.sl g) ys [v] S'
  | .int _, _, _, _, c, g, ys, _, h => by simp [cellSl] at h
  | .bool, _, _, _, c, g, ys, _, h => by simp [cellSl] at h
  | .str, _, _, _, c, g, ys, _, h => by simp [cellSl] at h
  | .sl f, xs, vs, S, 0, g, ys, hc, h => by
    simp only [cellSl, Option.some.injEq, Sigma.mk.injEq] at h
    obtain ⟨rfl, h⟩ := h
    obtain rfl := eq_of_heq h
    have hl := hc.len
    match vs, hl with
    | [v], _ => exact ⟨v, rfl, S, fun _ h => h, hc⟩
  | .sl f, xs, vs, S, c + 1, g, ys, hc, h => by simp [cellSl] at h
  | .pair a b, p, vs, S, c, g, ys, hc, h => by
    simp only [CRel] at hc
    obtain ⟨v1, v2, side, rfl, h1, h2⟩ := hc
    simp only [cellSl] at h
    cases hb : Nat.blt c a.size
    · rw [hb, cond_false] at h
      obtain ⟨v, hv, S', hS, hr⟩ := CRel.cell h2 h
      have hge : a.size ≤ c := by have := Nat.blt_eq (x := c) (y := a.size); rw [hb] at this; simp at this; omega
      exact ⟨v, by rw [List.getElem?_append_right (by rw [h1.len]; exact hge), h1.len]; exact hv, S', fun q hq => (hS q hq).1, hr⟩
    · rw [hb, cond_true] at h
      obtain ⟨v, hv, S', hS, hr⟩ := CRel.cell h1 h
      have hlt : c < a.size := by have := Nat.blt_eq (x := c) (y := a.size); rw [hb] at this; simpa using this
      exact ⟨v, by rw [List.getElem?_append_left (by rw [h1.len]; exact hlt)]; exact hv, S', fun q hq => (hS q hq).1, hr⟩
theorem seg_get {arr : Array Value} {o n c : Nat} (hc : c < n) : (seg arr o n)[c]? = arr[o + c]? := by
  simp [seg, hc]
/-- what a pa-leaf's place holds -/
theorem Sim.pa (hs : Sim X σ a w G) {r i c : Nat} {f : Kd} {xs : List f.T} {g : Kd} {ys : List g.T} {v : Value} (hl : LRel X σ w.heap G (.pa r i c) v) (hr : σ.look r = some (.data f xs))
    (hc : cellSl f (xs.getD i f.zero) c = some ⟨g, ys⟩) : ∃ S, CRel X.deep w.heap (.sl g) ys [v] S ∧ (X.deep = false → ∀ q, S q → Imm X σ w.heap G q) := by
  obtain ⟨hi, hcs, b, n, cap, arr, e, fr, e1, e2, e3⟩ := hl.2 f xs (St.dat_of hr)
  rcases hs.row r _ hr with ⟨_, e'⟩ | ⟨b', cap', arr', e', fr', ow, d1, d2, d3, d4, d5, d6, d7⟩
  · rw [e1] at e'; simp at e'
  · rw [e1] at d1; simp at d1; obtain ⟨rfl, _⟩ := d1
    rw [e2] at d4; obtain ⟨rfl, rfl, rfl⟩ : arr = arr' ∧ e = e' ∧ fr = fr' := by simpa using d4
    have hx : xs[i]? = some xs[i] := List.getElem?_eq_getElem hi
    have hg : xs.getD i f.zero = xs[i] := by simp [List.getD, hx]
    rw [hg] at hc
    obtain ⟨u, hu, S', hS, hr'⟩ := (d7 i _ hx).cell hc
    rw [seg_get hcs, e3] at hu
    obtain rfl := Option.some.inj hu
    refine ⟨S', hr', fun hd q hq => ?_⟩
    have := hS q hq
    unfold ESet at this
    rw [if_neg (by simp [hd])] at this
    exact this
theorem opLen_ok (hE : EnvOk P E) (hs : Sim X σ a w G) {o : Oper} {c : Call} {x : Operand} {t : TypeId} {ts : List TypeId} (ho : o.op = .call c) (hc : c.callee = .builtin .len) (hargs : c.args.toList = [x])
    (hts : c.argTypes.toList = t :: ts) (h : opLen E o t x σ = some (true, σ')) : OpOK P X o σ' a w := by
  have hargs' := arr_one hargs
  have ht := arr_head hts
  have sl : ∀ (n : Nat), (∃ p q, a.eval x = .slice p n q) → E.isSl t = true → σ.put1 o (.int .i64 n) = some (true, σ') → OpOK P X o σ' a w := by
    intro n ⟨p, q, e⟩ hsl h
    obtain ⟨d, hd⟩ := hE.isSl hsl
    exact OpOK.one hs h (by simp [execOp, ho, resolve, hc, hargs', e, invoke, builtin, run_len_slice hd ht]) rfl (by simp [Leaf.refs])
  unfold opLen at h
  split at h
  · rename_i s hx
    cases hst : E.isStr t <;> simp only [hst, cond_true, cond_false] at h
    · cases h
    have h1 := (hs.ev1 hx (by simp)).1
    simp only [LRel] at h1
    exact OpOK.one hs h (by simp [execOp, ho, resolve, hc, hargs', h1, invoke, builtin, run_len_string (hE.isStr hst) ht]) rfl (by simp [Leaf.refs])
  · rename_i hx
    cases hsl : E.isSl t <;> simp only [hsl, cond_true, cond_false] at h
    · cases h
    exact sl 0 ⟨none, 0, (hs.ev1 hx (by simp)).1⟩ hsl h
  · rename_i f xs hx
    cases hsl : E.isSl t <;> simp only [hsl, cond_true, cond_false] at h
    · cases h
    exact sl _ (CRel.slVal (hs.ev1 hx (by simp)).1) hsl h
  · rename_i r hx
    split at h
    · rename_i f xs hr
      cases hsl : E.isSl t <;> simp only [hsl, cond_true, cond_false] at h
      · cases h
      have h1 := (hs.ev1 hx (by simp)).1.2 f xs (St.dat_of hr)
      exact sl _ (by rw [h1]; exact (hs.row r _ hr).hvVal) hsl h
    · cases h
  · rename_i r off len hx
    split at h
    · rename_i f xs hr
      cases hsl : E.isSl t <;> simp only [hsl, cond_true, cond_false] at h
      · cases h
      obtain ⟨_, h1⟩ := (hs.ev1 hx (by simp)).1.2 f xs (St.dat_of hr)
      refine sl len ?_ hsl h
      rcases h1 with ⟨rfl, p, q, e⟩ | ⟨b, n, cap, c', _, e, _⟩
      · exact ⟨p, q, e⟩
      · exact ⟨_, _, e⟩
    · cases h
  · rename_i r i c' hx
    split at h
    · rename_i f xs hr
      split at h
      · rename_i q hq
        cases hsl : E.isSl t <;> simp only [hsl, cond_true, cond_false] at h
        · cases h
        obtain ⟨S, h1, _⟩ := hs.pa (g := q.1) (ys := q.2) (hs.ev1 hx (by simp)).1 hr hq
        exact sl _ (CRel.slVal h1) hsl h
      · cases h
    · cases h
  · cases h
theorem sameL_V : ∀ {ls ms : List Leaf} {us vs : List Value} {e : Bool}, sameL E ls ms = some e → All2 (LRel X σ w.heap G) ls us → All2 (LRel X σ w.heap G) ms vs → sameV us vs = some e := by
  intro ls
  induction ls with
  | nil =>
    intro ms us vs e h h1 h2
    cases ms with
    | nil => cases h1; cases h2; simpa [sameL, sameV] using h
    | cons m ms => simp [sameL] at h
  | cons l ls ih =>
    intro ms us vs e h h1 h2
    cases ms with
    | nil => cases l <;> simp [sameL] at h
    | cons m ms =>
      cases h1 with
      | cons r1 t1 =>
        cases h2 with
        | cons r2 t2 =>
          cases l <;> cases m <;> simp only [sameL] at h <;> try (cases h)
          · simp only [LRel] at r1 r2
            subst r1 r2
            rename_i k n j m
            simp only [sameV]
            cases hk : decide (k = j) <;> simp only [hk, cond_true, cond_false] at h ⊢
            · cases h
            · obtain ⟨q, hq, rfl⟩ := Option.map_eq_some_iff.mp h
              rw [ih hq t1 t2]; rfl
          · simp only [LRel] at r1 r2
            subst r1 r2
            simp only [sameV]
            obtain ⟨q, hq, rfl⟩ := Option.map_eq_some_iff.mp h
            rw [ih hq t1 t2]; rfl
          · simp only [LRel] at r1 r2
            subst r1 r2
            simp only [sameV]
            obtain ⟨q, hq, rfl⟩ := Option.map_eq_some_iff.mp h
            rw [ih hq t1 t2]; rfl
theorem kdMatch_V {h : Array Obj} : ∀ {f : Kd} {ls rest : List Leaf} {vs : List Value}, kdMatch f ls = some rest → All2 (LRel X σ h G) ls vs → ∃ v1 v2, vs = v1 ++ v2 ∧ FlatV f v1 ∧ All2 (LRel X σ h G) rest v2
  | .int k, ls, rest, vs, hm, hl => by
    match ls, hm with
    | .int j n :: t, hm2 =>
      simp only [kdMatch] at hm2
      cases hd : decide (j = k) <;> simp only [hd, cond_true, cond_false] at hm2
      · cases hm2
      · rw [decide_eq_true_eq] at hd
        obtain rfl := Option.some.inj hm2
        subst hd
        cases hl with
        | cons r tl => exact ⟨[_], _, rfl, ⟨n, by rw [r]⟩, tl⟩
  | .bool, ls, rest, vs, hm, hl => by
    match ls, hm with
    | .bool b :: t, hm2 =>
      obtain rfl := Option.some.inj hm2
      cases hl with
      | cons r tl => exact ⟨[_], _, rfl, ⟨b, by rw [r]⟩, tl⟩
  | .str, ls, rest, vs, hm, hl => by
    match ls, hm with
    | .str b :: t, hm2 =>
      obtain rfl := Option.some.inj hm2
      cases hl with
      | cons r tl => exact ⟨[_], _, rfl, ⟨b, by rw [r]⟩, tl⟩
  | .sl f, ls, rest, vs, hm, hl => by cases ls <;> simp [kdMatch] at hm
  | .pair a b, ls, rest, vs, hm, hl => by
    have hm' : (kdMatch a ls).bind (kdMatch b) = some rest := by cases ls <;> simpa [kdMatch] using hm
    obtain ⟨r, h1, h2⟩ := Option.bind_eq_some_iff.mp hm'
    obtain ⟨v1, v2, rfl, k1, k2⟩ := kdMatch_V h1 hl
    obtain ⟨v3, v4, rfl, k3, k4⟩ := kdMatch_V h2 k2
    exact ⟨v1 ++ v3, v4, by simp, ⟨v1, v3, rfl, k1, k3⟩, k4⟩
theorem kdIs_V {h : Array Obj} {f : Kd} {ls : List Leaf} {vs : List Value} (hm : kdIs f ls = true) (hl : All2 (LRel X σ h G) ls vs) : FlatV f vs := by
  unfold kdIs at hm
  split at hm
  · rename_i hk
    obtain ⟨v1, v2, rfl, k1, k2⟩ := kdMatch_V hk hl
    cases k2
    rw [List.append_nil]; exact k1
  · cases hm
theorem opBin_ok (hE : EnvOk P E) (hQ : EqsOk P E) (hs : Sim X σ a w G) {o : Oper} {op : BinOp} {t u : TypeId} {x y : Operand} (ho : o.op = .binOp op t x y u)
    (h : opBin E o op t x y σ = some (true, σ')) : OpOK P X o σ' a w := by
  unfold opBin at h
  have putC : ∀ (c : Bool) (l : Leaf) (v : Value), some (c, σ.put o.dst (.v (.one l))) = some (true, σ') → (c = true → (execOp a.eval o).run P w = .ok (.value v) w) → LRel X σ w.heap G l v → l.refs = [] → OpOK P X o σ' a w := by
    intro c l v e hrun hl hr
    obtain ⟨hc, rfl⟩ := Prod.mk.inj (Option.some.inj e)
    exact OpOK.put hs (hrun hc) (Or.inr hl) (by simp [AV.refs_one, hr])
  split at h
  · rename_i k p j q hx hy
    have h1 := (hs.ev hx).1
    have h2 := (hs.ev hy).1
    replace h1 : a.eval x = .int k p := h1.resolve_left (by simp)
    replace h2 : a.eval y = .int j q := h2.resolve_left (by simp)
    by_cases hkj : k = j
    · subst hkj
      simp only [decide_true, cond_true] at h
      cases op <;> simp only [] at h
      case shl =>
        refine putC _ _ _ h (fun hr => ?_) rfl rfl
        rw [decide_eq_true_eq] at hr
        simp [execOp, ho, h1, h2, eqGuard, binOp, Op.shift, show ¬ q < 0 by omega]
      case shr =>
        refine putC _ _ _ h (fun hr => ?_) rfl rfl
        rw [decide_eq_true_eq] at hr
        simp [execOp, ho, h1, h2, eqGuard, binOp, Op.shift, show ¬ q < 0 by omega]
      case quo =>
        refine putC _ _ _ h (fun hr => ?_) rfl rfl
        simp at hr
        simp [execOp, ho, h1, h2, eqGuard, binOp, Op.intDiv, hr]
      case rem =>
        refine putC _ _ _ h (fun hr => ?_) rfl rfl
        simp at hr
        simp [execOp, ho, h1, h2, eqGuard, binOp, Op.intDiv, hr]
      case andNot => cases h
      all_goals exact OpOK.one hs h (by simp [execOp, ho, h1, h2, eqGuard, binOp, Op.intArith, Op.intBits, Op.intCmp]; try rfl) rfl (by simp [Leaf.refs])
    · simp only [hkj, decide_false, cond_false] at h
      cases op <;> simp only [] at h <;> try (cases h; done)
      case shl =>
        refine putC _ _ _ h (fun hr => ?_) rfl rfl
        rw [decide_eq_true_eq] at hr
        simp [execOp, ho, h1, h2, eqGuard, binOp, Op.shift, show ¬ q < 0 by omega]
      case shr =>
        refine putC _ _ _ h (fun hr => ?_) rfl rfl
        rw [decide_eq_true_eq] at hr
        simp [execOp, ho, h1, h2, eqGuard, binOp, Op.shift, show ¬ q < 0 by omega]
  · rename_i p q hx hy
    have h1 := (hs.ev hx).1
    have h2 := (hs.ev hy).1
    replace h1 : a.eval x = .string p := h1.resolve_left (by simp)
    replace h2 : a.eval y = .string q := h2.resolve_left (by simp)
    cases op <;> simp only [] at h <;> try (cases h; done)
    case add =>
      refine putC _ _ _ h (fun hr => ?_) rfl rfl
      rw [decide_eq_true_eq] at hr
      have : ¬ (((p.size + q.size : Nat) : Int) > IntKind.i64.max) := by
        have e : IntKind.i64.max = 9223372036854775807 := by decide
        rw [e]; omega
      simp only [execOp, ho, h1, h2, eqGuard, binOp, Op.stringOp]
      rw [if_neg this]
      simp
    all_goals exact OpOK.one hs h (by simp [execOp, ho, h1, h2, eqGuard, binOp, Op.stringOp]; try rfl) rfl (by simp [Leaf.refs])
  · rename_i p q hx hy
    have h1 := (hs.ev hx).1
    have h2 := (hs.ev hy).1
    replace h1 : a.eval x = .bool p := h1.resolve_left (by simp)
    replace h2 : a.eval y = .bool q := h2.resolve_left (by simp)
    cases ht : E.isBool t <;> simp only [ht, cond_true, cond_false] at h
    · cases h
    have hu := hE.isBool ht
    cases op <;> simp only [] at h <;> try (cases h; done)
    · exact OpOK.one hs h (by simp [execOp, ho, h1, h2, eqGuard, run_eql_bool w t p q hu]) rfl (by simp [Leaf.refs])
    · exact OpOK.one hs h (by simp [execOp, ho, h1, h2, eqGuard, run_neq_bool w t p q hu]) rfl (by simp [Leaf.refs])
  · rename_i ls ms hx hy
    obtain ⟨us, h1, hu⟩ := (hs.ev hx).1
    obtain ⟨vs, h2, hv⟩ := (hs.ev hy).1
    split at h
    case h_2 => cases h
    rename_i i hi
    cases hb : memN t E.eqT && kdIs i.kd ls && kdIs i.kd ms <;> simp only [hb, cond_true, cond_false] at h
    · cases h
    simp only [Bool.and_eq_true] at hb
    have hq : ∀ (e : Bool) (x y : Operand) (w : World), sameV us vs = some e → _ := fun e x y w hse => hQ t i hb.1.1 hi us vs e x y w hse (kdIs_V hb.1.2 hu) (kdIs_V hb.2 hv)
    cases op <;> simp only [] at h <;> try (cases h; done)
    · obtain ⟨e, he, h⟩ := Option.bind_eq_some_iff.mp h
      have hse := sameL_V (us := us) (vs := vs) (e := e) (ls := ls) (ms := ms) he hu hv
      obtain ⟨q1, q2, q3⟩ := hq e x y w hse
      exact OpOK.one hs h (by simp [execOp, ho, h1, h2, q1, binOp, q3]) rfl (by simp [Leaf.refs])
    · obtain ⟨e, he, h⟩ := Option.bind_eq_some_iff.mp h
      have hse := sameL_V (us := us) (vs := vs) (e := e) (ls := ls) (ms := ms) he hu hv
      obtain ⟨q1, q2, q3⟩ := hq e x y w hse
      exact OpOK.one hs h (by simp [execOp, ho, h1, h2, q2, binOp, q3]) rfl (by simp [Leaf.refs])
  · cases h
end
end Go.Proofs.Ytalmhjlcjcnidaa.Ev

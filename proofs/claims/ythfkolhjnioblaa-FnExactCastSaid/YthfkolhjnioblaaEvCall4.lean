/- Calls: joined, on the caller's side. -/
import Derived.Test.YthfkolhjnioblaaEvCall3
set_option linter.all false
namespace Go.Proofs.Ythfkolhjnioblaa.Ev
open Go
section
variable {P : Program} {E : Env} {X : Ctx} {σ σ' : St} {a : Act} {w w' : World} {G : Gh}
theorem ArgsR.append {S : Nat → Prop} {ow : Nat → Option Nat} {h : Array Obj} : ∀ {as bs : List TV} {vs us : List Value} {i : Nat}, ArgsR S ow h i as vs → ArgsR S ow h (i + as.length) bs us → ArgsR S ow h i (as ++ bs) (vs ++ us)
  | [], bs, vs, us, i, h1, h2 => by simp only [ArgsR] at h1; subst h1; simpa using h2
  | x :: as, bs, vs, us, i, h1, h2 => by
    obtain ⟨ws, v, vs', rfl, h3, h4, h5⟩ := h1
    exact ⟨ws, v, _, rfl, h3, h4, h5.append (by rwa [show i + 1 + as.length = i + (x :: as).length by simp; omega])⟩
theorem ArgsR.len {S : Nat → Prop} {ow : Nat → Option Nat} {h : Array Obj} : ∀ {as : List TV} {vs : List Value} {i : Nat}, ArgsR S ow h i as vs → as.length = vs.length
  | [], vs, i, h1 => by simp only [ArgsR] at h1; subst h1; rfl
  | x :: as, vs, i, h1 => by
    obtain ⟨ws, v, vs', rfl, h3, h4, h5⟩ := h1
    simp [h5.len]
theorem caps_rel {S : Nat → Prop} {ow : Nat → Option Nat} (hI : ∀ q, Imm X σ w.heap G q → S q) : ∀ {cs : List Cap} {more : List TV} {vs : List Value} (i : Nat), cs.mapM capArg = some more → All2 (CapRel X σ w.heap G) cs vs → ArgsR S ow w.heap i more vs
  | [], more, vs, i, h, hl => by simp at h; subst h; cases hl; rfl
  | c :: cs, more, vs, i, h, hl => by
    rw [List.mapM_cons] at h
    obtain ⟨m, hm, h⟩ := Option.bind_eq_some_iff.mp h
    obtain ⟨ms', hms, h⟩ := Option.bind_eq_some_iff.mp h
    obtain rfl := Option.some.inj h
    cases hl with
    | cons h1 h2 =>
      cases c with
      | own r => cases hm
      | sh f x =>
        obtain rfl := Option.some.inj hm
        exact ⟨[_], _, _, rfl, .cons (SptS.mono hI h1) .nil, rfl, caps_rel hI (i + 1) hms h2⟩
theorem mapM_mem {α β : Type} {f : α → Option β} : ∀ {ls : List α} {ms : List β}, ls.mapM f = some ms → ∀ l ∈ ls, ∃ m ∈ ms, f l = some m
  | [], ms, h, l, hl => by simp at hl
  | l' :: ls, ms, h, l, hl => by
    rw [List.mapM_cons] at h
    obtain ⟨m, hm, h⟩ := Option.bind_eq_some_iff.mp h
    obtain ⟨ms', hms, h⟩ := Option.bind_eq_some_iff.mp h
    obtain rfl := Option.some.inj h
    rcases List.mem_cons.mp hl with rfl | hl
    · exact ⟨m, by simp, hm⟩
    · obtain ⟨m', h1, h2⟩ := mapM_mem hms l hl
      exact ⟨m', by simp [h1], h2⟩
theorem own_data {deep : Bool} {ms : List Md} : ∀ {xs : List Operand} {i : Nat} {as : List TV}, argsOf deep σ ms i xs = some as → ∀ r ∈ ownRefs σ ms i xs, ∃ f ys, σ.look r = some (.data f ys)
  | [], i, as, h, r, hr => by simp [ownRefs] at hr
  | x :: xs, i, as, h, r, hr => by
    simp only [argsOf] at h
    obtain ⟨z, hz, h⟩ := Option.bind_eq_some_iff.mp h
    obtain ⟨zs, hzs, h⟩ := Option.bind_eq_some_iff.mp h
    simp only [ownRefs, List.mem_append] at hr
    rcases hr with hr | hr
    · cases hm : modeAt ms i
      · rw [hm] at hr; simp at hr
      · rw [hm] at hz hr
        simp only [argOf] at hz
        obtain ⟨y, hy, hz⟩ := Option.bind_eq_some_iff.mp hz
        rw [evT_ev hy] at hr
        have key : ∀ l ∈ y.leaves, ∃ m, odLeaf deep σ l = some m := by
          intro l hl
          cases y with
          | one l' =>
            simp [TV.leaves] at hl; subst hl
            obtain ⟨m, hm, _⟩ := Option.map_eq_some_iff.mp hz
            exact ⟨m, hm⟩
          | agg ls =>
            obtain ⟨ms', hm, _⟩ := Option.map_eq_some_iff.mp hz
            obtain ⟨m, _, h⟩ := mapM_mem hm l hl
            exact ⟨m, h⟩
        obtain ⟨l, hl, hr⟩ := List.mem_flatMap.mp hr
        obtain ⟨m, hm'⟩ := key l hl
        cases l <;> simp only [odLeaf] at hm' <;> try (cases hm'; done)
        case int => simp [Leaf.refs] at hr
        case bool => simp [Leaf.refs] at hr
        case str => simp [Leaf.refs] at hr
        case sh => simp [Leaf.refs] at hr
        case ow r' =>
          simp [Leaf.refs] at hr; subst hr
          split at hm'
          · rename_i f ys hlk; exact ⟨f, ys, hlk⟩
          · cases hm'
    · exact own_data hzs r hr
theorem look_none {idx : List (Nat × Nat)} {r : Nat} (h : r ∉ idx.map (·.1)) : look r idx = none := by
  induction idx with
  | nil => rfl
  | cons p t ih =>
    obtain ⟨r', k⟩ := p
    simp only [List.map_cons, List.mem_cons, not_or] at h
    simp only [look, beq_ne h.1, cond_false]
    exact ih h.2
theorem look_fst {idx : List (Nat × Nat)} {r k : Nat} (h : look r idx = some k) : r ∈ idx.map (·.1) := by
  cases hm : memN r (idx.map (·.1))
  · rw [look_none fun hc => by rw [memN_iff.mpr hc] at hm; cases hm] at h; cases h
  · exact memN_iff.mp hm
theorem apartL_iff {xs ys : List Nat} (h : apartL xs ys = true) : ∀ x ∈ xs, x ∉ ys := by
  intro x hx hy
  have := List.all_eq_true.mp h x hx
  rw [memN_iff.mpr hy] at this
  cases this
/-- A CALL, at its caller's. -/
theorem callG_ok {C : CF} (hC : CFok P C) (hs : Sim X σ a w G) {R : Type} {dst : Option Nat} {g : Nat} {xs : List Operand} {more : List TV} {us : List Value} {κ : St → Option R} {r : R}
    (hmore : ∀ (S : Nat → Prop) (ow : Nat → Option Nat) (i : Nat), (∀ q, Imm X σ w.heap G q → S q) → ArgsR S ow w.heap i more us)
    (h : callG E C X.deep dst g xs more σ κ = some r) : (∀ (args : Array Value) (w : World), (callFunc g args).run P w = .ok (.enter g args) w) ∧ Calls P g (xs.map a.eval ++ us).toArray w fun
      | .returned v, w' => ∃ σ' G', Sim X σ' (a.put dst v) w' G' ∧ κ σ' = some r
      | _, _ => False := by
  unfold callG at h
  split at h
  · rename_i as has
    generalize hms : (E.sig g).modes = ms at h has
    generalize hro : roRefs σ ms 0 xs = ro at h
    generalize hown : ownRefs σ ms 0 xs = own at h
    cases hc : distinct own && apartL ro own <;> simp only [hc, cond_true, cond_false] at h
    · cases h
    simp only [Bool.and_eq_true] at hc
    obtain ⟨hdist, hap⟩ := hc
    have hap := apartL_iff hap
    obtain ⟨out, ⟨hent, hok⟩, hκ⟩ := hC _ _ _ _ _ h
    refine ⟨hent, ?_⟩
    split at hκ
    · rename_i τ hτ
      have hdata : ∀ r ∈ own, ∃ f ys, σ.look r = some (.data f ys) := by rw [← hown]; exact own_data has
      have hfst : (idxArgs σ ms 0 xs).map (·.1) = own := by rw [idxArgs_fst, hown]
      let ow0 : Nat → Option Nat := fun q => (G.rt q).bind fun r => look r (idxArgs σ ms 0 xs)
      let S : Nat → Prop := fun q => Imm X σ w.heap G q ∨ ∃ r ∈ ro, σ.live r ∧ G.rt q = some r
      have how : ∀ q, ow0 q ≠ none ↔ ∃ r ∈ own, G.rt q = some r := by
        intro q
        constructor
        · intro hq
          obtain ⟨k, hk⟩ := Option.ne_none_iff_exists'.mp hq
          obtain ⟨r, h1, h2⟩ := Option.bind_eq_some_iff.mp hk
          exact ⟨r, by rw [← hfst]; exact look_fst h2, h1⟩
        · rintro ⟨r, h1, h2⟩
          rw [← hfst] at h1
          obtain ⟨⟨r', k⟩, h3, rfl⟩ := List.mem_map.mp h1
          have := look_mem (by rw [hfst]; exact hdist) h3
          show (G.rt q).bind _ ≠ none
          rw [h2, Option.bind_some, this]; simp
      have hlive : ∀ r ∈ own, σ.live r := by
        intro r hr
        obtain ⟨f, ys, h⟩ := hdata r hr
        exact ⟨_, h, by simp⟩
      have hS : ∀ q, S q → q < w.heap.size ∧ ow0 q = none := by
        intro q hq
        have hnone : ∀ r ∈ own, G.rt q ≠ some r := by
          intro r hr e
          rcases hq with hq | ⟨r', hr', hl, e'⟩
          · exact hq.2.2 r e (hlive r hr)
          · rw [e] at e'; obtain rfl := Option.some.inj e'
            exact hap r hr' hr
        refine ⟨?_, ?_⟩
        · rcases hq with hq | ⟨r', hr', hl, e'⟩
          · exact hq.1
          · exact hs.lt q r' e'
        · cases h0 : ow0 q with
          | none => rfl
          | some k =>
            obtain ⟨r, h1, h2⟩ := (how q).mp (by rw [h0]; simp)
            exact absurd h2 (hnone r h1)
      have hlt : ∀ q j, ow0 q = some j → q < w.heap.size := by
        intro q j h0
        obtain ⟨r, h1, h2⟩ := (how q).mp (by rw [h0]; simp)
        exact hs.lt q r h2
      have hargs : ArgsR S ow0 w.heap 0 (as ++ more) (xs.map a.eval ++ us) := by
        refine ArgsR.append (args_rel (ms := ms) hs (fun q hq => .inl hq) has (fun r k hk q hq => ?_) (fun r hr hl q hq => .inr ⟨r, by rw [← hro]; exact hr, hl, hq⟩)) (hmore _ _ _ fun q hq => .inl hq)
        show (G.rt q).bind _ = some k
        rw [hq, Option.bind_some]
        exact look_mem (by rw [hfst]; exact hdist) hk
      refine (hok w _ S ow0 hS hlt hargs).mono fun e w' hpost => ?_
      cases e with
      | returned v =>
        unfold finCall at hτ
        obtain ⟨σ1, hσ1, hτ⟩ := Option.bind_eq_some_iff.mp hτ
        obtain ⟨σ2, hσ2, hτ⟩ := Option.bind_eq_some_iff.mp hτ
        obtain rfl := Option.some.inj hτ
        cases hsh : hasSh out.leaves <;> simp only [hsh, cond_true, cond_false] at hσ1
        · obtain rfl := Option.some.inj hσ1
          obtain ⟨G', hG⟩ := hs.behind how hlive hpost (fun q hq => (hS q hq).2) hσ2 (fun h => by rw [hsh] at h; cases h)
          exact ⟨_, G', hG, hκ⟩
        · obtain ⟨f1, f2, f3, f4, f5, f6⟩ := Sim.freeze hs hσ1
          have hlive1 : ∀ r ∈ own, σ1.live r := by
            intro r hr
            obtain ⟨f, ys, h⟩ := hdata r hr
            exact ⟨_, f4 r (fun h => hap r h hr) f ys h, by simp⟩
          obtain ⟨G', hG⟩ := f1.behind how hlive1 hpost (fun q hq => (hS q hq).2) hσ2 (fun _ q hq => by
            rcases hq with hq | ⟨r, hr, hl, e⟩
            · exact f2 q hq
            · exact f3 q r hr e hl)
          exact ⟨_, G', hG, hκ⟩
      | panicked c => exact hpost
      | outgrown => exact hpost
    · cases hκ
  · cases h
theorem evalCall_ok {C : CF} (hC : CFok P C) (hs : Sim X σ a w G) {R : Type} {o : Oper} {c : Call} {κ : St → Option R} {r : R} (ho : o.op = .call c) (h : evalCall E C X.deep o c σ κ = some r)
    {next : Act → World → Prop} {Q : Exit → Act → World → Prop} (hn : ∀ σ' a' w' G', Sim X σ' a' w' G' → κ σ' = some r → next a' w') : o.wp P a w next Q := by
  unfold evalCall at h
  split at h
  · rename_i x hcal
    split at h
    · rename_i g cs hx
      split at h
      · rename_i more hmore
        obtain ⟨vs, e, hv⟩ := (hs.ev1 hx (by simp)).1
        obtain ⟨h1, h2⟩ := callG_ok hC hs (us := vs) (fun S ow i hI => caps_rel hI i hmore hv) h
        have hrun : (execOp a.eval o).run P w = .ok (.enter g (c.args.toList.map a.eval ++ vs).toArray) w := by
          simp only [execOp, ho]
          have : (c.args.map a.eval ++ vs.toArray) = (c.args.toList.map a.eval ++ vs).toArray := by
            apply Array.ext'; simp
          simp [resolve, hcal, e, Deferred.ofValue, invoke, h1, this]
        unfold Oper.wp
        rw [hrun]
        refine Calls.mono h2 fun e w' hpost => ?_
        cases e with
        | returned v =>
          obtain ⟨σ', G', h3, h4⟩ := hpost
          exact hn σ' _ w' G' h3 h4
        | panicked c => exact hpost.elim
        | outgrown => exact hpost.elim
      · cases h
    · cases h
  · cases h
theorem OpOK.wp {o : Oper} {next : Act → World → Prop} {Q : Exit → Act → World → Prop} (h : OpOK P X o σ' a w) (hn : ∀ a' w' G', Sim X σ' a' w' G' → next a' w') : o.wp P a w next Q := by
  obtain ⟨v, w', G', h1, h2⟩ := h
  unfold Oper.wp
  rcases h1 with h1 | ⟨h1, rfl⟩
  · rw [h1]; exact hn _ _ G' h2
  · rw [h1]; exact hn _ _ G' h2
theorem isGoCall_op {o : Oper} {c : Call} (h : isGoCall o = some c) : o.op = .call c := by
  unfold isGoCall at h
  split at h
  · obtain rfl := Option.some.inj h; rfl
  · cases h
theorem evalOp_ok {C : CF} (hE : EnvOk P E) (hQ : EqsOk P E) (hC : CFok P C) (hs : Sim X σ a w G) {R : Type} {o : Oper} {κ : St → Option R} {r : R} (h : evalOp E C X.deep o σ κ = some r)
    {next : Act → World → Prop} {Q : Exit → Act → World → Prop} (hn : ∀ σ' a' w' G', Sim X σ' a' w' G' → κ σ' = some r → next a' w') : o.wp P a w next Q := by
  unfold evalOp at h
  split at h
  · rename_i c hc
    exact evalCall_ok hC hs (isGoCall_op hc) h hn
  · split at h
    · rename_i c σ' h1
      cases c <;> simp only [cond_true, cond_false] at h
      · cases h
      · exact (evalOp1_ok hE hQ hs h1).wp fun a' w' G' hs' => hn σ' a' w' G' hs' h
    · cases h
end
end Go.Proofs.Ythfkolhjnioblaa.Ev

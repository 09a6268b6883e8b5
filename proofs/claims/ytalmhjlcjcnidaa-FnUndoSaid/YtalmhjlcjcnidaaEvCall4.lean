/- Calls: joined, on the caller's side. -/
import Derived.Test.YtalmhjlcjcnidaaEvTake
set_option linter.all false
namespace Go.Proofs.Ytalmhjlcjcnidaa.Ev
open Go
section
variable {P : Program} {E : Env} {X : Ctx} {σ σ' : St} {a : Act} {w w' : World} {G : Gh}
theorem ArgsR.append {S : Nat → Prop} {ow : Nat → Option Nat} {h : Array Obj} {ms : List Md} : ∀ {as bs : List TV} {vs us : List Value} {i : Nat}, ArgsR S ow h ms i as vs → ArgsR S ow h ms (i + as.length) bs us → ArgsR S ow h ms i (as ++ bs) (vs ++ us)
  | [], bs, vs, us, i, h1, h2 => by simp only [ArgsR] at h1; subst h1; simpa using h2
  | x :: as, bs, vs, us, i, h1, h2 => by
    obtain ⟨ws, v, vs', rfl, h3, h4, h5⟩ := h1
    exact ⟨ws, v, _, rfl, h3, h4, h5.append (by rwa [show i + 1 + as.length = i + (x :: as).length by simp; omega])⟩
theorem ArgsR.len {S : Nat → Prop} {ow : Nat → Option Nat} {h : Array Obj} {ms : List Md} : ∀ {as : List TV} {vs : List Value} {i : Nat}, ArgsR S ow h ms i as vs → as.length = vs.length
  | [], vs, i, h1 => by simp only [ArgsR] at h1; subst h1; rfl
  | x :: as, vs, i, h1 => by
    obtain ⟨ws, v, vs', rfl, h3, h4, h5⟩ := h1
    simp [h5.len]
theorem modeAt_past {ms : List Md} {i : Nat} (h : ms.length ≤ i) : modeAt ms i = .ro := by simp [modeAt, List.getD, List.getElem?_eq_none h]
theorem caps_rel {S : Nat → Prop} {ow : Nat → Option Nat} {md : List Md} (hI : ∀ q, Imm X σ w.heap G q → S q) : ∀ {cs : List Cap} {more : List TV} {vs : List Value} (i : Nat), md.length ≤ i → cs.mapM capArg = some more → All2 (CapRel X σ w.heap G) cs vs → ArgsR S ow w.heap md i more vs
  | [], more, vs, i, _, h, hl => by simp at h; subst h; cases hl; rfl
  | c :: cs, more, vs, i, hi, h, hl => by
    rw [List.mapM_cons] at h
    obtain ⟨m, hm, h⟩ := Option.bind_eq_some_iff.mp h
    obtain ⟨ms', hms, h⟩ := Option.bind_eq_some_iff.mp h
    obtain rfl := Option.some.inj h
    cases hl with
    | cons h1 h2 =>
      cases c with
      | own r => cases hm
      | sh f x =>
        obtain rfl := Option.some.inj hm
        exact ⟨[_], _, _, rfl, .cons (SptS.mono hI h1) .nil, by rw [modeAt_past hi]; exact rfl, caps_rel hI (i + 1) (by omega) hms h2⟩
theorem ioVals_past {ms : List Md} : ∀ (as : List TV) (vs : List Value) (i : Nat), ms.length ≤ i → ioVals ms i as vs = []
  | [], vs, i, _ => by simp [ioVals]
  | x :: as, [], i, _ => by simp [ioVals]
  | x :: as, v :: vs, i, h => by
    simp only [ioVals, modeAt_past h]
    rw [ioVals_past as vs (i + 1) (Nat.le_succ_of_le h)]; rfl
theorem ioVals_append {ms : List Md} : ∀ {as : List TV} {vs : List Value} {i : Nat} {more : List TV} {us : List Value}, as.length = vs.length → ms.length ≤ i + as.length → ioVals ms i (as ++ more) (vs ++ us) = ioVals ms i as vs
  | [], [], i, more, us, _, h => by
    simp only [List.nil_append]
    rw [ioVals_past more us i (by simpa using h)]; simp [ioVals]
  | [], _ :: _, _, _, _, h, _ => by simp at h
  | _ :: _, [], _, _, _, h, _ => by simp at h
  | x :: as, v :: vs, i, more, us, h1, h2 => by
    simp only [List.cons_append, ioVals]
    rw [ioVals_append (by simpa using h1) (by simp at h2; omega)]
theorem mapM_mem {α β : Type} {f : α → Option β} : ∀ {ls : List α} {ms : List β}, ls.mapM f = some ms → ∀ l ∈ ls, ∃ m ∈ ms, f l = some m
  | [], ms, h, l, hl => by simp at hl
  | l' :: ls, ms, h, l, hl => by
    rw [List.mapM_cons] at h
    obtain ⟨m, hm, h⟩ := Option.bind_eq_some_iff.mp h
    obtain ⟨ms', hms, h⟩ := Option.bind_eq_some_iff.mp h
    obtain rfl := Option.some.inj h
    rcases List.mem_cons.mp hl with rfl | hl
    · exact ⟨m, by simp, hm⟩
    · obtain ⟨m', h1, h2⟩ := mapM_mem hms l hl
      exact ⟨m', by simp [h1], h2⟩
theorem od_live {deep : Bool} {ls ms : List Leaf} (h : ls.mapM (odLeaf deep σ) = some ms) : ∀ r ∈ ls.flatMap Leaf.refs, σ.live r := by
  intro r hr
  obtain ⟨l, hl, hr⟩ := List.mem_flatMap.mp hr
  obtain ⟨m, _, hm'⟩ := mapM_mem h l hl
  cases l <;> simp only [odLeaf] at hm' <;> try (cases hm'; done)
  case int => simp [Leaf.refs] at hr
  case bool => simp [Leaf.refs] at hr
  case str => simp [Leaf.refs] at hr
  case sh => simp [Leaf.refs] at hr
  case ow r' =>
    simp [Leaf.refs] at hr; subst hr
    split at hm'
    · rename_i f ys hlk; exact ⟨_, hlk, by simp⟩
    · cases hm'
theorem odT_live {deep : Bool} {y z : TV} (h : y.mapM (odLeaf deep σ) = some z) : ∀ r ∈ y.leaves.flatMap Leaf.refs, σ.live r := by
  cases y with
  | one l =>
    obtain ⟨m, hm, _⟩ := Option.map_eq_some_iff.mp h
    exact od_live (deep := deep) (ls := [l]) (ms := [m]) (by simp [hm])
  | agg ls =>
    obtain ⟨ms', hm, _⟩ := Option.map_eq_some_iff.mp h
    exact od_live hm
theorem ioPart_fst : ∀ ls : List Leaf, (ls.flatMap ioPart).map (·.1) = ls.flatMap Leaf.refs
  | [] => rfl
  | l :: t => by cases l <;> simp [ioPart, ioPart_fst t, Leaf.refs, Function.comp_def]
theorem io_live {deep : Bool} {ls ms : List Leaf} (h : ls.mapM (ioLeaf deep σ) = some ms) : ∀ r ∈ ls.flatMap Leaf.refs, σ.live r := by
  intro r hr
  obtain ⟨l, hl, hr⟩ := List.mem_flatMap.mp hr
  obtain ⟨m, _, hm'⟩ := mapM_mem h l hl
  cases l <;> simp only [ioLeaf, odLeaf] at hm' <;> try (cases hm'; done)
  case int => simp [Leaf.refs] at hr
  case bool => simp [Leaf.refs] at hr
  case str => simp [Leaf.refs] at hr
  case sh => simp [Leaf.refs] at hr
  case ow r' =>
    simp [Leaf.refs] at hr; subst hr
    split at hm'
    · rename_i f ys hlk; exact ⟨_, hlk, by simp⟩
    · cases hm'
  case pa r' i c =>
    simp [Leaf.refs] at hr; subst hr
    cases deep <;> simp only [cond_true, cond_false] at hm'
    · cases hm'
    split at hm'
    · rename_i f ys hlk; exact ⟨_, hlk, by simp⟩
    · cases hm'
theorem ioT_live {deep : Bool} {y z : TV} (h : y.mapM (ioLeaf deep σ) = some z) : ∀ r ∈ y.leaves.flatMap Leaf.refs, σ.live r := by
  cases y with
  | one l =>
    obtain ⟨m, hm, _⟩ := Option.map_eq_some_iff.mp h
    exact io_live (deep := deep) (ls := [l]) (ms := [m]) (by simp [hm])
  | agg ls =>
    obtain ⟨ms', hm, _⟩ := Option.map_eq_some_iff.mp h
    exact io_live hm
theorem own_live {deep : Bool} {ms : List Md} : ∀ {xs : List Operand} {i : Nat} {as : List TV}, argsOf deep σ ms i xs = some as → (∀ r ∈ ownRefs σ ms i xs, σ.live r) ∧ (∀ r ∈ (ioRows σ ms i xs).map (·.1), r ∈ ownRefs σ ms i xs) ∧ (distinct (ownRefs σ ms i xs) = true → distinct ((ioRows σ ms i xs).map (·.1)) = true)
  | [], i, as, h => ⟨fun r hr => by simp [ownRefs] at hr, fun r hr => by simp [ioRows] at hr, fun _ => rfl⟩
  | x :: xs, i, as, h => by
    simp only [argsOf] at h
    obtain ⟨z, hz, h⟩ := Option.bind_eq_some_iff.mp h
    obtain ⟨zs, hzs, h⟩ := Option.bind_eq_some_iff.mp h
    obtain ⟨k1, k2, k3⟩ := own_live hzs
    simp only [ownRefs, ioRows, List.map_append]
    cases hm : modeAt ms i with
    | ro => exact ⟨by simpa using k1, by simpa using k2, by simpa using k3⟩
    | give =>
      rw [hm] at hz
      simp only [argOf] at hz
      obtain ⟨y, hy, hz⟩ := Option.bind_eq_some_iff.mp hz
      rw [evT_ev hy]
      have hl := odT_live hz
      refine ⟨fun r hr => ?_, fun r hr => ?_, fun hd => ?_⟩
      · rcases List.mem_append.mp hr with hr | hr
        · exact hl r hr
        · exact k1 r hr
      · exact List.mem_append_right _ (k2 r (by simpa using hr))
      · exact k3 (distinct_app hd).2.1
    | io =>
      rw [hm] at hz
      simp only [argOf] at hz
      obtain ⟨y, hy, hz⟩ := Option.bind_eq_some_iff.mp hz
      rw [evT_ev hy]
      have hl := ioT_live hz
      have hfs : ((AV.v y).leaves.flatMap ioPart).map (·.1) = (AV.v y).refs := ioPart_fst _
      simp only [hfs]
      refine ⟨fun r hr => ?_, fun r hr => ?_, fun hd => ?_⟩
      · rcases List.mem_append.mp hr with hr | hr
        · exact hl r hr
        · exact k1 r hr
      · rcases List.mem_append.mp hr with hr | hr
        · exact List.mem_append_left _ hr
        · exact List.mem_append_right _ (k2 r hr)
      · exact distinct_mono hd (fun r h => h) k2 (fun h => h) k3
    | bx f =>
      rw [hm] at hz
      obtain ⟨r, ls, e1, e2, ms', e3, _⟩ := bxOf hz
      rw [ev1_ev' e1]
      have hb : (AV.v (.one (.ptr r 0 0))).refs = [r] := by simp [AV.refs, AV.leaves, TV.leaves, Leaf.refs]
      have hbel : σ.below r = r :: ls.flatMap Leaf.refs := by unfold St.below; rw [e2]; rfl
      simp only [hb, List.flatMap_cons, List.flatMap_nil, List.append_nil, hbel, List.map_cons, List.map_nil]
      have hl := od_live e3
      refine ⟨fun r' hr => ?_, fun r' hr => ?_, fun hd => ?_⟩
      · rcases List.mem_append.mp hr with hr | hr
        · rcases List.mem_cons.mp hr with rfl | hr
          · exact ⟨_, e2, by simp⟩
          · exact hl r' hr
        · exact k1 r' hr
      · rcases List.mem_append.mp hr with hr | hr
        · rw [List.mem_singleton] at hr; subst hr; simp
        · exact List.mem_append_right _ (k2 r' hr)
      · exact distinct_mono (l1 := r :: ls.flatMap Leaf.refs) (m1 := [r]) hd (fun r' h => by rw [List.mem_singleton] at h; subst h; simp) k2 (fun _ => rfl) k3
where
  distinct_app {l1 l2 : List Nat} (h : distinct (l1 ++ l2) = true) : distinct l1 = true ∧ distinct l2 = true ∧ ∀ x ∈ l1, x ∉ l2 := by
    induction l1 with
    | nil => exact ⟨rfl, h, by simp⟩
    | cons a t ih =>
      simp only [List.cons_append, distinct] at h
      cases hm : memN a (t ++ l2) <;> simp only [hm, cond_true, cond_false] at h
      · obtain ⟨i1, i2, i3⟩ := ih h
        have hn : a ∉ t ++ l2 := fun hc => by rw [memN_iff.mpr hc] at hm; cases hm
        rw [List.mem_append, not_or] at hn
        refine ⟨?_, i2, fun x hx => ?_⟩
        · simp only [distinct]
          have : memN a t = false := by
            cases hb : memN a t
            · rfl
            · exact absurd (memN_iff.mp hb) hn.1
          rw [this]; exact i1
        · rcases List.mem_cons.mp hx with rfl | hx
          · exact hn.2
          · exact i3 x hx
      · cases h
  app_distinct {l1 l2 : List Nat} (h1 : distinct l1 = true) (h2 : distinct l2 = true) (h3 : ∀ x ∈ l1, x ∉ l2) : distinct (l1 ++ l2) = true := by
    induction l1 with
    | nil => exact h2
    | cons a t ih =>
      simp only [distinct] at h1
      cases hm : memN a t <;> simp only [hm, cond_true, cond_false] at h1
      · simp only [List.cons_append, distinct]
        have : memN a (t ++ l2) = false := by
          cases hb : memN a (t ++ l2)
          · rfl
          · rcases List.mem_append.mp (memN_iff.mp hb) with hc | hc
            · rw [memN_iff.mpr hc] at hm; cases hm
            · exact absurd hc (h3 a (List.mem_cons_self ..))
        rw [this]
        exact ih h1 fun x hx => h3 x (List.mem_cons_of_mem _ hx)
      · cases h1
  distinct_mono {l1 l2 m1 m2 : List Nat} (hd : distinct (l1 ++ l2) = true) (h1 : ∀ r ∈ m1, r ∈ l1) (h2 : ∀ r ∈ m2, r ∈ l2) (g1 : distinct l1 = true → distinct m1 = true) (g2 : distinct l2 = true → distinct m2 = true) : distinct (m1 ++ m2) = true := by
    obtain ⟨d1, d2, d3⟩ := distinct_app hd
    exact app_distinct (g1 d1) (g2 d2) fun x hx hx2 => d3 x (h1 x hx) (h2 x hx2)
theorem look_none {α : Type} {idx : List (Nat × α)} {r : Nat} (h : r ∉ idx.map (·.1)) : look r idx = none := by
  induction idx with
  | nil => rfl
  | cons p t ih =>
    obtain ⟨r', k⟩ := p
    simp only [List.map_cons, List.mem_cons, not_or] at h
    simp only [look, beq_ne h.1, cond_false]
    exact ih h.2
theorem look_fst {α : Type} {idx : List (Nat × α)} {r : Nat} {k : α} (h : look r idx = some k) : r ∈ idx.map (·.1) := by
  cases hm : memN r (idx.map (·.1))
  · rw [look_none fun hc => by rw [memN_iff.mpr hc] at hm; cases hm] at h; cases h
  · exact memN_iff.mp hm
theorem apartL_iff {xs ys : List Nat} (h : apartL xs ys = true) : ∀ x ∈ xs, x ∉ ys := by
  intro x hx hy
  have := List.all_eq_true.mp h x hx
  rw [memN_iff.mpr hy] at this
  cases this
theorem freeze_box : ∀ {rs : List Nat} {σ σ' : St}, σ.freeze rs = some σ' → ∀ r, r ∉ rs → ∀ f ls, σ.look r = some (.box f ls) → ∃ ls', σ'.look r = some (.box f ls')
  | [], σ, σ', h, r, _, f, ls, hr => by simp only [St.freeze, Option.some.injEq] at h; subst h; exact ⟨ls, hr⟩
  | s :: rs, σ, σ', h, r, hn, f, ls, hr => by
    simp only [List.mem_cons, not_or] at hn
    simp only [St.freeze] at h
    split at h
    · rename_i g xs _
      refine freeze_box h r hn.2 f (ls.map (frzLeaf s g xs)) ?_
      rw [look_kill, if_neg (by simpa using hn.1), St.look_map, hr]; rfl
    · exact freeze_box h r hn.2 f ls hr
    · cases h
theorem freeze_hol : ∀ {rs : List Nat} {σ σ' : St}, σ.freeze rs = some σ' → ∀ r, r ∉ rs → ∀ f xs i c n, σ.look r = some (.hol f xs i c n) → σ'.look r = some (.hol f xs i c n)
  | [], σ, σ', h, r, _, f, xs, i, c, n, hr => by simp only [St.freeze, Option.some.injEq] at h; subst h; exact hr
  | s :: rs, σ, σ', h, r, hn, f, xs, i, c, n, hr => by
    simp only [List.mem_cons, not_or] at hn
    simp only [St.freeze] at h
    split at h
    · rename_i g ys _
      refine freeze_hol h r hn.2 f xs i c n ?_
      rw [look_kill, if_neg (by simpa using hn.1), St.look_map, hr]; rfl
    · exact freeze_hol h r hn.2 f xs i c n hr
    · cases h
theorem io_idx {ms : List Md} : ∀ {xs : List Operand} {i : Nat} {r e c : Nat}, (r, some (e, c)) ∈ ioRows σ ms i xs → ∃ k, (r, (some (e, c), k)) ∈ idxArgs σ ms i xs
  | [], i, r, e, c, h => by simp [ioRows] at h
  | x :: xs, i, r, e, c, h => by
    simp only [ioRows, List.mem_append] at h
    simp only [idxArgs, List.mem_append]
    rcases h with h | h
    · cases hm : modeAt ms i <;> cases hx : σ.ev x <;> rw [hm, hx] at h <;> simp only [List.not_mem_nil] at h
      · rename_i a
        have : ∀ (ls : List Leaf) (j : Nat), (r, some (e, c)) ∈ ls.flatMap ioPart → ∃ k, (r, (some (e, c), k)) ∈ idxL (some i) j ls := by
          intro ls
          induction ls with
          | nil => intro j h; simp at h
          | cons l ls ih =>
            intro j h
            simp only [List.flatMap_cons, List.mem_append] at h
            simp only [idxL, List.mem_append]
            rcases h with h | h
            · cases l <;> simp [ioPart] at h
              obtain ⟨rfl, rfl, rfl⟩ := h
              exact ⟨_, .inl (List.mem_cons_self ..)⟩
            · obtain ⟨k, hk⟩ := ih (j + 1) h
              exact ⟨k, .inr hk⟩
        obtain ⟨k, hk⟩ := this _ 0 h
        exact ⟨k, .inl hk⟩
      · simp at h
    · obtain ⟨k, hk⟩ := io_idx h
      exact ⟨k, .inr hk⟩
theorem idx_deep {deep : Bool} {ms : List Md} : ∀ {xs : List Operand} {i : Nat} {as : List TV}, argsOf deep σ ms i xs = some as → ∀ {r e c k : Nat}, (r, (some (e, c), k)) ∈ idxArgs σ ms i xs → deep = true
  | [], i, as, h, r, e, c, k, hk => by simp [idxArgs] at hk
  | x :: xs, i, as, h, r, e, c, k, hk => by
    simp only [argsOf] at h
    obtain ⟨z, hz, h⟩ := Option.bind_eq_some_iff.mp h
    obtain ⟨zs, hzs, h⟩ := Option.bind_eq_some_iff.mp h
    simp only [idxArgs, List.mem_append] at hk
    have hls : ∀ (f : Leaf → Option Leaf) (ls : List Leaf) (ms : List Leaf) (j : Nat), ls.mapM f = some ms → (∀ r i c m, f (.pa r i c) = some m → deep = true) → (r, (some (e, c), k)) ∈ idxL (some i) j ls → deep = true := by
      intro f ls
      induction ls with
      | nil => intro ms j _ _ h; simp [idxL] at h
      | cons l ls ih =>
        intro ms j hm hf h
        rw [List.mapM_cons] at hm
        obtain ⟨m, h1, hm⟩ := Option.bind_eq_some_iff.mp hm
        obtain ⟨ms', h2, hm⟩ := Option.bind_eq_some_iff.mp hm
        simp only [idxL, List.mem_append] at h
        rcases h with h | h
        · cases l <;> simp at h
          exact hf _ _ _ _ h1
        · exact ih ms' (j + 1) h2 hf h
    have hod : ∀ r i c m, odLeaf deep σ (.pa r i c) = some m → deep = true := by intro r i c m h; cases h
    have hio : ∀ r i c m, ioLeaf deep σ (.pa r i c) = some m → deep = true := by
      intro r i c m h
      cases hd : deep
      · rw [hd] at h; cases h
      · rfl
    rcases hk with hk | hk
    · cases hm : modeAt ms i with
      | ro => cases hx : σ.ev x <;> rw [hm, hx] at hk <;> simp at hk
      | give =>
        rw [hm] at hz hk
        simp only [argOf] at hz
        obtain ⟨y, hy, hz⟩ := Option.bind_eq_some_iff.mp hz
        rw [evT_ev hy] at hk
        cases y with
        | one l =>
          obtain ⟨m, h1, _⟩ := Option.map_eq_some_iff.mp hz
          exact hls _ [l] [m] 0 (by simp [h1]) hod hk
        | agg ls =>
          obtain ⟨m, h1, _⟩ := Option.map_eq_some_iff.mp hz
          exact hls _ ls m 0 h1 hod hk
      | io =>
        rw [hm] at hz hk
        simp only [argOf] at hz
        obtain ⟨y, hy, hz⟩ := Option.bind_eq_some_iff.mp hz
        rw [evT_ev hy] at hk
        cases y with
        | one l =>
          obtain ⟨m, h1, _⟩ := Option.map_eq_some_iff.mp hz
          exact hls _ [l] [m] 0 (by simp [h1]) hio hk
        | agg ls =>
          obtain ⟨m, h1, _⟩ := Option.map_eq_some_iff.mp hz
          exact hls _ ls m 0 h1 hio hk
      | bx f =>
        rw [hm] at hz hk
        obtain ⟨r', ls, e1, e2, ms', e3, _⟩ := bxOf hz
        rw [ev1_ev' e1] at hk
        simp only [e2, List.mem_cons] at hk
        rcases hk with hk | hk
        · simp at hk
        · exact hls _ ls ms' 0 e3 hod hk
    · exact idx_deep hzs hk
theorem frz_io {τ : St} {ro : List Nat} {PS : Nat → Nat → Prop} {ios : List (Nat × Option (Nat × Nat))} {pv : List Value} (h : All2 (IoRow X σ w.heap G PS) ios pv) (hn : ∀ r ∈ ios.map (·.1), r ∉ ro) (hd : ∀ r, r ∉ ro → ∀ f xs, σ.look r = some (.data f xs) → τ.look r = some (.data f xs))
    (hb : ∀ r, r ∉ ro → ∀ f ls, σ.look r = some (.box f ls) → ∃ ls', τ.look r = some (.box f ls')) : All2 (IoRow X τ w.heap G PS) ios pv := by
  refine h.monoMem fun r hr v hv => hv.same (fun f xs => hd r.1 (hn _ ?_) f xs) (fun f ls => hb r.1 (hn _ ?_) f ls)
  · exact List.mem_map.mpr ⟨r, hr, rfl⟩
  · exact List.mem_map.mpr ⟨r, hr, rfl⟩
/-- A CALL, at its caller's. -/
theorem callG_ok {C : CF} (hC : CFok P E C) (hs : Sim X σ a w G) {R : Type} {dst : Option Nat} {g : Nat} {xs : List Operand} {more : List TV} {us : List Value} {κ : St → Option R} {r : R}
    (hmore : ∀ (S : Nat → Prop) (ow : Nat → Option Nat) (md : List Md) (i : Nat), md.length ≤ i → (∀ q, Imm X σ w.heap G q → S q) → ArgsR S ow w.heap md i more us)
    (h : callG E C X.deep dst g xs more σ κ = some r) : (∀ (args : Array Value) (w : World), (callFunc g args).run P w = .ok (.enter g args) w) ∧ Calls P g (xs.map a.eval ++ us).toArray w fun
      | .returned v, w' => ∃ σ' G', Sim X σ' (a.put dst v) w' G' ∧ κ σ' = some r
      | _, _ => False := by
  unfold callG at h
  split at h
  · rename_i as has
    generalize hms : (E.sig g).modes = ms at h has
    generalize hro : roRefs σ ms 0 xs = ro at h
    generalize hown : ownRefs σ ms 0 xs = own at h
    generalize hio : ioRows σ ms 0 xs = ios at h
    cases hc : distinct own && apartL ro own && Nat.ble ms.length xs.length <;> simp only [hc, cond_true, cond_false] at h
    · cases h
    simp only [Bool.and_eq_true] at hc
    obtain ⟨⟨hdist, hap⟩, hml⟩ := hc
    have hml := Nat.ble_true hml
    have hasl : as.length = xs.length := by
      have : ∀ {xs : List Operand} {i : Nat} {as : List TV}, argsOf X.deep σ ms i xs = some as → as.length = xs.length := by
        intro xs
        induction xs with
        | nil => intro i as h; simp only [argsOf, Option.some.injEq] at h; subst h; rfl
        | cons x xs ih =>
          intro i as h
          simp only [argsOf] at h
          obtain ⟨z, hz, h⟩ := Option.bind_eq_some_iff.mp h
          obtain ⟨zs, hzs, h⟩ := Option.bind_eq_some_iff.mp h
          obtain rfl := Option.some.inj h
          simp [ih hzs]
      exact this has
    have hap := apartL_iff hap
    obtain ⟨out, ⟨hent, hok⟩, hκ⟩ := hC _ _ _ _ _ h
    refine ⟨hent, ?_⟩
    split at hκ
    · rename_i τ hτ
      obtain ⟨hlive, hiosub, hiod⟩ := own_live has
      rw [hown] at hlive hiosub hiod
      rw [hio] at hiosub hiod
      have hfst : (idxArgs σ ms 0 xs).map (·.1) = own := by rw [idxArgs_fst ms _ _ _ has, hown]
      classical
      let PS : Nat → Nat → Prop := fun r => if h : ∃ S' i c k v, (r, (some (i, c), k)) ∈ idxArgs σ ms 0 xs ∧ LRel X σ w.heap G (.pa r i c) v ∧ PartOk X σ w.heap G r i c S' v then Classical.choose h else fun _ => False
      have hdi : distinct ((idxArgs σ ms 0 xs).map (·.1)) = true := by rw [hfst]; exact hdist
      have hPS : X.deep = true → ∀ r i c k v, (r, (some (i, c), k)) ∈ idxArgs σ ms 0 xs → LRel X σ w.heap G (.pa r i c) v → PartOk X σ w.heap G r i c (PS r) v := by
        intro hd r i c k v hm hl
        obtain ⟨S', hS'⟩ := hs.part hd hl
        have hex : ∃ S' i c k v, (r, (some (i, c), k)) ∈ idxArgs σ ms 0 xs ∧ LRel X σ w.heap G (.pa r i c) v ∧ PartOk X σ w.heap G r i c S' v := ⟨S', i, c, k, v, hm, hl, hS'⟩
        have e : PS r = Classical.choose hex := dif_pos hex
        obtain ⟨i', c', k', v', h1, h2, h3⟩ := Classical.choose_spec hex
        have hu := (look_mem hdi hm).symm.trans (look_mem hdi h1)
        simp only [Option.some.injEq, Prod.mk.injEq] at hu
        obtain ⟨⟨rfl, rfl⟩, rfl⟩ := hu
        rw [e]
        intro f ys hr p hp
        have h4 := h3 f ys hr p hp
        have hvv : v' = v := by
          obtain ⟨_, _, b, n, cap, arr, ty, fr, e1, e2, e3⟩ := h2.2 f ys (St.dat_of hr)
          obtain ⟨_, _, b', n', cap', arr', ty', fr', e1', e2', e3'⟩ := hl.2 f ys (St.dat_of hr)
          rw [e1] at e1'; simp at e1'; obtain ⟨rfl, _⟩ := e1'
          rw [e2] at e2'; simp at e2'; obtain ⟨rfl, _⟩ := e2'
          rw [e3] at e3'; exact Option.some.inj e3'
        rw [hvv] at h4
        exact h4
      let ow0 : Nat → Option Nat := fun q => (G.rt q).bind fun r => (look r (idxArgs σ ms 0 xs)).bind fun p => match p.1 with
        | none => some p.2
        | some _ => if PS r q then some p.2 else none
      let S : Nat → Prop := fun q => Imm X σ w.heap G q ∨ ∃ r ∈ ro, σ.live r ∧ G.rt q = some r
      have how : ∀ q, ow0 q ≠ none → ∃ r ∈ own, G.rt q = some r := by
        intro q hq
        obtain ⟨k, hk⟩ := Option.ne_none_iff_exists'.mp hq
        obtain ⟨r, h1, h2⟩ := Option.bind_eq_some_iff.mp hk
        obtain ⟨p, h3, _⟩ := Option.bind_eq_some_iff.mp h2
        refine ⟨r, ?_, h1⟩
        rw [← hfst]
        exact look_fst h3
      have hps : ∀ r i c q, (r, some (i, c)) ∈ ios → G.rt q = some r → ow0 q ≠ none → PS r q := by
        intro r i c q hm hq h0
        obtain ⟨k, hk⟩ := io_idx (hio ▸ hm)
        have e : ow0 q = if PS r q then some k else none := by
          show (G.rt q).bind _ = _
          rw [hq, Option.bind_some, look_mem hdi hk]; rfl
        rw [e] at h0
        by_cases hp : PS r q
        · exact hp
        · rw [if_neg hp] at h0; exact absurd rfl h0
      have hS : ∀ q, S q → q < w.heap.size ∧ ow0 q = none := by
        intro q hq
        have hnone : ∀ r ∈ own, G.rt q ≠ some r := by
          intro r hr e
          rcases hq with hq | ⟨r', hr', hl, e'⟩
          · exact hq.2.2 r e (hlive r hr)
          · rw [e] at e'; obtain rfl := Option.some.inj e'
            exact hap r hr' hr
        refine ⟨?_, ?_⟩
        · rcases hq with hq | ⟨r', hr', hl, e'⟩
          · exact hq.1
          · exact hs.lt q r' e'
        · cases h0 : ow0 q with
          | none => rfl
          | some k =>
            obtain ⟨r, h1, h2⟩ := how q (by rw [h0]; simp)
            exact absurd h2 (hnone r h1)
      have hlt : ∀ q j, ow0 q = some j → q < w.heap.size := by
        intro q j h0
        obtain ⟨r, h1, h2⟩ := how q (by rw [h0]; simp)
        exact hs.lt q r h2
      have hargs : ArgsR S ow0 w.heap ms 0 (as ++ more) (xs.map a.eval ++ us) := by
        refine ArgsR.append (args_rel (ms := ms) hs (fun q hq => .inl hq) has (fun r k hk q hq => ?_) (fun r i c k hk v hl f ys p hr hp hd => ?_) (fun r hr hl q hq => .inr ⟨r, by rw [← hro]; exact hr, hl, hq⟩)) (hmore _ _ _ _ (by rw [hasl]; omega) fun q hq => .inl hq)
        · show (G.rt q).bind _ = some k
          rw [hq, Option.bind_some, look_mem hdi hk]; rfl
        · obtain ⟨_, _, _, h4, b, cap, arr, e, fr, ow, _, _, _, _, _, _, _, _, h5, _⟩ := hPS hd r i c k v hk hl f ys hr p hp
          refine h5.mono fun q hq => ?_
          show (G.rt q).bind _ = some k
          rw [h4 q hq, Option.bind_some, look_mem hdi hk]
          exact if_pos hq
      have hpv : ioVals ms 0 (as ++ more) (xs.map a.eval ++ us) = ioVals ms 0 as (xs.map a.eval) := ioVals_append (by simp [hasl]) (by omega)
      have hiov := ioVals_rel (a := a) (PS := PS) hs has fun r i c k hk v hl => by
        cases hd : X.deep with
        | true => exact hPS hd r i c k v hk hl
        | false => exact absurd (idx_deep has hk) (by rw [hd]; simp)
      rw [hio] at hiov
      refine (hok w _ S ow0 hS hlt (by rw [hms]; exact hargs)).mono fun e w' hpost => ?_
      cases e with
      | returned v =>
        dsimp only at hpost
        rw [hms, hpv] at hpost
        generalize hpvg : ioVals ms 0 as (xs.map a.eval) = pv at hpost hiov
        unfold finCall at hτ
        obtain ⟨σ1, hσ1, hτ⟩ := Option.bind_eq_some_iff.mp hτ
        have hfr : Sim X σ1 a w G ∧ (∀ r ∈ own, σ1.live r) ∧ (hasSh out.leaves = true → ∀ q, S q → Imm X σ1 w.heap G q) ∧ All2 (IoRow X σ1 w.heap G PS) ios pv := by
          cases hsh : hasSh out.leaves <;> simp only [hsh, cond_true, cond_false] at hσ1
          · obtain rfl := Option.some.inj hσ1
            exact ⟨hs, hlive, (fun h => by cases h), hiov⟩
          · obtain ⟨f1, f2, f3, f4, f5, f6⟩ := Sim.freeze hs hσ1
            have hb := freeze_box hσ1
            refine ⟨f1, fun r hr => ?_, fun _ q hq => ?_, ?_⟩
            · obtain ⟨row, h1, h2⟩ := hlive r hr
              cases row with
              | dead => exact absurd rfl h2
              | data f ys => exact ⟨_, f4 r (fun h => hap r h hr) f ys h1, by simp⟩
              | hol f ys i c n => exact ⟨_, freeze_hol hσ1 r (fun h => hap r h hr) f ys i c n h1, by simp⟩
              | box f ls =>
                obtain ⟨ls', h3⟩ := hb r (fun h => hap r h hr) f ls h1
                exact ⟨_, h3, by simp⟩
            · rcases hq with hq | ⟨r, hr, hl, e⟩
              · exact f2 q hq
              · exact f3 q r hr e hl
            · exact frz_io hiov (fun r h h' => hap r h' (hiosub r h)) f4 hb
        obtain ⟨g1, g2, g3, g4⟩ := hfr
        generalize hrb : (E.sig g).rbx = rb at hτ hpost
        split at hτ
        · split at hτ
          · cases g4
            obtain ⟨G', hG⟩ := g1.behindPtr how g2 hpost (fun q hq => (hS q hq).2) hτ g3
            exact ⟨_, G', hG, hκ⟩
          · cases hτ
        split at hτ
        · obtain ⟨σ2, hσ2, hτ⟩ := Option.bind_eq_some_iff.mp hτ
          obtain rfl := Option.some.inj hτ
          cases g4
          obtain ⟨G', hG⟩ := g1.behind how g2 hpost (fun q hq => (hS q hq).2) hσ2 g3
          exact ⟨_, G', hG, hκ⟩
        · rename_i hne
          obtain ⟨G', hG⟩ := g1.finIo how g2 (PS := PS) hps hpost (fun q hq => (hS q hq).2) g4 (fun h => hne h) hiosub (hiod hdist) hτ g3
          exact ⟨_, G', hG, hκ⟩
      | panicked c => exact hpost
      | outgrown => exact hpost
    · cases hκ
  · cases h
theorem evalCall_ok {C : CF} (hC : CFok P E C) (hs : Sim X σ a w G) {R : Type} {o : Oper} {c : Call} {κ : St → Option R} {r : R} (ho : o.op = .call c) (h : evalCall E C X.deep o c σ κ = some r)
    {next : Act → World → Prop} {Q : Exit → Act → World → Prop} (hn : ∀ σ' a' w' G', Sim X σ' a' w' G' → κ σ' = some r → next a' w') : o.wp P a w next Q := by
  unfold evalCall at h
  split at h
  · rename_i x hcal
    split at h
    · rename_i g cs hx
      split at h
      · rename_i more hmore
        obtain ⟨vs, e, hv⟩ := (hs.ev1 hx (by simp)).1
        obtain ⟨h1, h2⟩ := callG_ok hC hs (us := vs) (fun S ow md i hi hI => caps_rel hI i hi hmore hv) h
        have hrun : (execOp a.eval o).run P w = .ok (.enter g (c.args.toList.map a.eval ++ vs).toArray) w := by
          simp only [execOp, ho]
          have : (c.args.map a.eval ++ vs.toArray) = (c.args.toList.map a.eval ++ vs).toArray := by
            apply Array.ext'; simp
          simp [resolve, hcal, e, Deferred.ofValue, invoke, h1, this]
        unfold Oper.wp
        rw [hrun]
        refine Calls.mono h2 fun e w' hpost => ?_
        cases e with
        | returned v =>
          obtain ⟨σ', G', h3, h4⟩ := hpost
          exact hn σ' _ w' G' h3 h4
        | panicked c => exact hpost.elim
        | outgrown => exact hpost.elim
      · cases h
    · cases h
  · cases h
theorem OpOK.wp {o : Oper} {next : Act → World → Prop} {Q : Exit → Act → World → Prop} (h : OpOK P X o σ' a w) (hn : ∀ a' w' G', Sim X σ' a' w' G' → next a' w') : o.wp P a w next Q := by
  obtain ⟨v, w', G', h1, h2⟩ := h
  unfold Oper.wp
  rcases h1 with h1 | ⟨h1, rfl⟩
  · rw [h1]; exact hn _ _ G' h2
  · rw [h1]; exact hn _ _ G' h2
theorem isGoCall_op {o : Oper} {c : Call} (h : isGoCall o = some c) : o.op = .call c := by
  unfold isGoCall at h
  split at h
  · obtain rfl := Option.some.inj h; rfl
  · cases h
theorem evalOp_ok {C : CF} (hE : EnvOk P E) (hQ : EqsOk P E) (hC : CFok P E C) (hs : Sim X σ a w G) {R : Type} {o : Oper} {κ : St → Option R} {r : R} (h : evalOp E C X.deep o σ κ = some r)
    {next : Act → World → Prop} {Q : Exit → Act → World → Prop} (hn : ∀ σ' a' w' G', Sim X σ' a' w' G' → κ σ' = some r → next a' w') : o.wp P a w next Q := by
  unfold evalOp at h
  split at h
  · rename_i c hc
    obtain ⟨G', hs'⟩ := hs.preOp (E := E) o
    exact evalCall_ok hC hs' (isGoCall_op hc) h hn
  · obtain ⟨G', hs⟩ := hs.preOp (E := E) o
    split at h
    · rename_i c σ' h1
      cases c <;> simp only [cond_true, cond_false] at h
      · cases h
      · exact (evalOp1_ok hE hQ hs h1).wp fun a' w' G' hs' => by
          obtain ⟨G2, hs2⟩ := hs'.postOp o σ
          exact hn _ a' w' G2 hs2 h
    · cases h
end
end Go.Proofs.Ytalmhjlcjcnidaa.Ev

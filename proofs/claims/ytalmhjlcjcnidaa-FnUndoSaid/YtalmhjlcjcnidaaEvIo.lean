/- Calls whose arguments come back changed: the caller behind the call. -/
import Derived.Test.YtalmhjlcjcnidaaEvCall3
set_option linter.all false
namespace Go.Proofs.Ytalmhjlcjcnidaa.Ev
open Go
section
variable {P : Program} {E : Env} {X : Ctx} {σ σ' : St} {a : Act} {w w' : World} {G : Gh}
def offT (ys : List TV) (i : Nat) : Nat := ((ys.take i).flatMap TV.leaves).length
theorem offT_zero (ys : List TV) : offT ys 0 = 0 := by simp [offT]
theorem offT_succ (y : TV) (ys : List TV) (i : Nat) : offT (y :: ys) (i + 1) = y.leaves.length + offT ys i := by simp [offT]
theorem leaf_at : ∀ {ys : List TV} {i : Nat} {y : TV} {m : Nat} {l : Leaf}, ys[i]? = some y → y.leaves[m]? = some l → (ys.flatMap TV.leaves)[offT ys i + m]? = some l
  | [], i, y, m, l, h, _ => by simp at h
  | y0 :: ys, 0, y, m, l, h, hl => by
    simp at h; subst h
    rw [offT_zero, Nat.zero_add, List.flatMap_cons, List.getElem?_append_left (List.getElem?_eq_some_iff.mp hl).1]; exact hl
  | y0 :: ys, i + 1, y, m, l, h, hl => by
    rw [offT_succ, List.flatMap_cons, List.getElem?_append_right (by omega), show y0.leaves.length + offT ys i + m - y0.leaves.length = offT ys i + m by omega]
    exact leaf_at (by simpa using h) hl
theorem offT_lt : ∀ {ys : List TV} {i : Nat} {y : TV}, ys[i]? = some y → offT ys i + y.leaves.length ≤ (ys.flatMap TV.leaves).length
  | [], i, y, h => by simp at h
  | y0 :: ys, 0, y, h => by simp at h; subst h; rw [offT_zero, List.flatMap_cons, List.length_append]; omega
  | y0 :: ys, i + 1, y, h => by
    have := offT_lt (ys := ys) (i := i) (y := y) (by simpa using h)
    rw [offT_succ, List.flatMap_cons, List.length_append]; omega
theorem AllJ.of {R : Nat → Leaf → Value → Prop} : ∀ {ls : List Leaf} {us : List Value} {j : Nat}, ls.length = us.length → (∀ m l v, ls[m]? = some l → us[m]? = some v → R (j + m) l v) → AllJ R j ls us
  | [], [], j, _, _ => .nil
  | [], _ :: _, _, h, _ => by simp at h
  | _ :: _, [], _, h, _ => by simp at h
  | l :: ls, u :: us, j, h, hR => .cons (hR 0 l u rfl rfl) (AllJ.of (by simpa using h) fun m l' v h1 h2 => by
      have := hR (m + 1) l' v (by simpa using h1) (by simpa using h2)
      rwa [show j + 1 + m = j + (m + 1) by omega])
theorem TVs_at : ∀ {ys : List TV} {us vs : List Value}, TVsShape ys us vs → ∀ {i : Nat} {y : TV}, ys[i]? = some y →
    ∃ v u, vs[i]? = some v ∧ TVShape y u v ∧ u.length = y.leaves.length ∧ ∀ m x, u[m]? = some x → us[offT ys i + m]? = some x
  | [], us, vs, _, i, y, h => by simp at h
  | y0 :: ys, us, vs, hs, i, y, h => by
    obtain ⟨u1, u2, v, vs', rfl, rfl, h1, h2⟩ := hs
    cases i with
    | zero =>
      simp at h; subst h
      refine ⟨v, u1, rfl, h1, h1.len, fun m x hx => ?_⟩
      rw [offT_zero, Nat.zero_add, List.getElem?_append_left (List.getElem?_eq_some_iff.mp hx).1]; exact hx
    | succ i =>
      obtain ⟨v', u, k1, k2, k3, k4⟩ := TVs_at h2 (i := i) (y := y) (by simpa using h)
      refine ⟨v', u, by simpa using k1, k2, k3, fun m x hx => ?_⟩
      rw [offT_succ, List.getElem?_append_right (by rw [h1.len]; omega), h1.len, show y0.leaves.length + offT ys i + m - y0.leaves.length = offT ys i + m by omega]
      exact k4 m x hx
theorem TVsShape.split : ∀ {ys1 ys2 : List TV} {us vs1 vs2 : List Value}, ys1.length = vs1.length → TVsShape (ys1 ++ ys2) us (vs1 ++ vs2) → ∃ u1 u2, us = u1 ++ u2 ∧ TVsShape ys1 u1 vs1 ∧ TVsShape ys2 u2 vs2
  | [], ys2, us, [], vs2, _, h => ⟨[], us, rfl, ⟨rfl, rfl⟩, h⟩
  | [], _, _, _ :: _, _, h, _ => by simp at h
  | _ :: _, _, _, [], _, h, _ => by simp at h
  | y :: ys1, ys2, us, v :: vs1, vs2, hl, h => by
    obtain ⟨u1, u2, v', vs', rfl, e, h1, h2⟩ := h
    obtain ⟨rfl, rfl⟩ : v = v' ∧ vs1 ++ vs2 = vs' := by simpa using e
    obtain ⟨w1, w2, rfl, h3, h4⟩ := TVsShape.split (by simpa using hl) h2
    exact ⟨u1 ++ w1, w2, by simp, ⟨u1, w1, v, vs1, rfl, rfl, h1, h3⟩, h4⟩
theorem TVsShape.lens : ∀ {ys : List TV} {us vs : List Value}, TVsShape ys us vs → ys.length = vs.length ∧ us.length = (ys.flatMap TV.leaves).length
  | [], us, vs, h => by obtain ⟨rfl, rfl⟩ := h; exact ⟨rfl, rfl⟩
  | y :: ys, us, vs, h => by
    obtain ⟨u1, u2, v, vs', rfl, rfl, h1, h2⟩ := h
    obtain ⟨k1, k2⟩ := TVsShape.lens h2
    exact ⟨by simp [k1], by simp [k2, h1.len]⟩
theorem PinOk.get {h : Array Obj} {ow : Nat → Option Nat} : ∀ {pv cs : List Value} {n : Nat}, PinOk h ow n pv cs → cs.length = pv.length ∧ ∀ {i : Nat} {v : Value}, pv[i]? = some v → ∃ c, cs[i]? = some c ∧ ((∃ a n m, v = .slice a n m) ∧ c = v ∨
      ∃ (b : Nat) (arr : Array Value) (e : TypeId) (fr : Nat × Nat), v = .pointer (some ⟨b, 0, none⟩) ∧ h[b]? = some (.cells arr e fr) ∧ NF fr arr.size ∧ c = .agg arr ∧ ow b = some (n + i))
  | [], cs, n, hp => by simp only [PinOk] at hp; subst hp; simp
  | v0 :: pv, cs, n, hp => by
    obtain ⟨c, cs', rfl, h1, h2⟩ := hp
    obtain ⟨k1, k2⟩ := PinOk.get h1
    refine ⟨by simp [k1], fun {i v} hv => ?_⟩
    cases i with
    | zero => simp at hv; subst hv; exact ⟨c, rfl, h2⟩
    | succ i =>
      obtain ⟨c', h3, h4⟩ := k2 (i := i) (by simpa using hv)
      exact ⟨c', by simpa using h3, by rwa [show n + 1 + i = n + (i + 1) by omega] at h4⟩
/-- which row stands at which index of the answer -/
def ioAt (L : Nat) : Nat → Nat → List Nat → List TV → Nat → Option Nat
  | j, i, r :: rs, .one _ :: ys, k => if k = j then some r else ioAt L (j + 1) (i + 1) rs ys k
  | j, i, r :: rs, .agg ls :: ys, k => if k = L + i then some r else ioAt L (j + ls.length) (i + 1) rs ys k
  | _, _, _, _, _ => none
theorem ioAt_low {L : Nat} : ∀ {ios : List Nat} {ys : List TV} {j i k : Nat}, k < j → k < L → ioAt L j i ios ys k = none
  | [], _, _, _, _, _, _ => by simp [ioAt]
  | _ :: _, [], _, _, _, _, _ => by simp [ioAt]
  | r :: rs, .one l :: ys, j, i, k, h1, h2 => by simp only [ioAt]; rw [if_neg (by omega)]; exact ioAt_low (by omega) h2
  | r :: rs, .agg ls :: ys, j, i, k, h1, h2 => by simp only [ioAt]; rw [if_neg (by omega)]; exact ioAt_low (by omega) h2
theorem ioAt_mem {L : Nat} : ∀ {ios : List Nat} {ys : List TV} {j i k r : Nat}, ioAt L j i ios ys k = some r → r ∈ ios
  | [], _, _, _, _, _, h => by simp [ioAt] at h
  | _ :: _, [], _, _, _, _, h => by simp [ioAt] at h
  | r0 :: rs, .one l :: ys, j, i, k, r, h => by
    simp only [ioAt] at h
    split at h
    · obtain rfl := Option.some.inj h; exact List.mem_cons_self ..
    · exact List.mem_cons_of_mem _ (ioAt_mem h)
  | r0 :: rs, .agg ls :: ys, j, i, k, r, h => by
    simp only [ioAt] at h
    split at h
    · obtain rfl := Option.some.inj h; exact List.mem_cons_self ..
    · exact List.mem_cons_of_mem _ (ioAt_mem h)
theorem ioAt_one {L : Nat} : ∀ {ios : List Nat} {ys : List TV} {j i n r : Nat} {l : Leaf}, j + (ys.flatMap TV.leaves).length ≤ L → ios[n]? = some r → ys[n]? = some (.one l) → ioAt L j i ios ys (j + offT ys n) = some r
  | [], _, _, _, _, _, _, _, h, _ => by simp at h
  | _ :: _, [], _, _, _, _, _, _, _, h => by simp at h
  | r0 :: rs, y :: ys, j, i, 0, r, l, hL, h1, h2 => by
    simp at h1 h2; subst h1 h2
    simp only [ioAt, offT_zero, Nat.add_zero, if_true]
  | r0 :: rs, y :: ys, j, i, n + 1, r, l, hL, h1, h2 => by
    have hlt := offT_lt (ys := ys) (i := n) (y := .one l) (by simpa using h2)
    simp only [List.flatMap_cons, List.length_append] at hL
    cases y with
    | one l0 =>
      simp only [TV.leaves, List.length_cons, List.length_nil] at hL hlt
      have ih := ioAt_one (L := L) (ios := rs) (ys := ys) (j := j + 1) (i := i + 1) (n := n) (by omega) (by simpa using h1) (by simpa using h2)
      generalize hk : j + offT _ (n + 1) = k
      rw [offT_succ] at hk
      simp only [TV.leaves, List.length_cons, List.length_nil] at hk
      simp only [ioAt]
      rw [if_neg (by omega), ← ih]; congr 1; omega
    | agg ls =>
      simp only [TV.leaves, List.length_cons, List.length_nil] at hL hlt
      have ih := ioAt_one (L := L) (ios := rs) (ys := ys) (j := j + ls.length) (i := i + 1) (n := n) (by omega) (by simpa using h1) (by simpa using h2)
      generalize hk : j + offT _ (n + 1) = k
      rw [offT_succ] at hk
      simp only [TV.leaves] at hk
      simp only [ioAt]
      rw [if_neg (by omega), ← ih]; congr 1; omega
theorem ioAt_agg {L : Nat} : ∀ {ios : List Nat} {ys : List TV} {j i n r : Nat} {ls : List Leaf}, j + (ys.flatMap TV.leaves).length ≤ L → ios[n]? = some r → ys[n]? = some (.agg ls) →
    ioAt L j i ios ys (L + i + n) = some r ∧ ∀ m, m < ls.length → ioAt L j i ios ys (j + offT ys n + m) = none
  | [], _, _, _, _, _, _, _, h, _ => by simp at h
  | _ :: _, [], _, _, _, _, _, _, _, h => by simp at h
  | r0 :: rs, y :: ys, j, i, 0, r, l, hL, h1, h2 => by
    simp at h1 h2; subst h1 h2
    simp only [List.flatMap_cons, List.length_append, TV.leaves] at hL
    refine ⟨by simp [ioAt], fun m hm => ?_⟩
    simp only [ioAt, offT_zero, Nat.add_zero]
    rw [if_neg (by omega)]
    exact ioAt_low (by omega) (by omega)
  | r0 :: rs, y :: ys, j, i, n + 1, r, l, hL, h1, h2 => by
    have hlt := offT_lt (ys := ys) (i := n) (y := .agg l) (by simpa using h2)
    simp only [List.flatMap_cons, List.length_append] at hL
    cases y with
    | one l0 =>
      simp only [TV.leaves, List.length_cons, List.length_nil] at hL hlt
      obtain ⟨ih1, ih2⟩ := ioAt_agg (L := L) (ios := rs) (ys := ys) (j := j + 1) (i := i + 1) (n := n) (by omega) (by simpa using h1) (by simpa using h2)
      refine ⟨?_, fun m hm => ?_⟩
      · generalize hk : L + i + (n + 1) = k
        simp only [ioAt]
        rw [if_neg (by omega), ← ih1]; congr 1; omega
      · generalize hk : j + offT _ (n + 1) + m = k
        rw [offT_succ] at hk
        simp only [TV.leaves, List.length_cons, List.length_nil] at hk
        simp only [ioAt]
        rw [if_neg (by omega), ← ih2 m hm]; congr 1; omega
    | agg ls =>
      simp only [TV.leaves, List.length_cons, List.length_nil] at hL hlt
      obtain ⟨ih1, ih2⟩ := ioAt_agg (L := L) (ios := rs) (ys := ys) (j := j + ls.length) (i := i + 1) (n := n) (by omega) (by simpa using h1) (by simpa using h2)
      refine ⟨?_, fun m hm => ?_⟩
      · generalize hk : L + i + (n + 1) = k
        simp only [ioAt]
        rw [if_neg (by omega), ← ih1]; congr 1; omega
      · generalize hk : j + offT _ (n + 1) + m = k
        rw [offT_succ] at hk
        simp only [TV.leaves] at hk
        simp only [ioAt]
        rw [if_neg (by omega), ← ih2 m hm]; congr 1; omega
theorem ioUp_of {dst : Option Nat} {j : Nat} {r : Nat × Option (Nat × Nat)} {y : TV} {p : ARow × List (Nat × ARow)} (hp : ioUp σ dst j r y = some p) : (r.2 = none ∧ ∃ f xs xs', σ.look r.1 = some (.data f xs) ∧ y = .one (.od f xs') ∧ p = (.data f xs', [])) ∨
    (r.2 = none ∧ ∃ f ls ls', σ.look r.1 = some (.box f ls) ∧ y = .agg ls' ∧ ls'.length = f.size ∧ p = (.box f (instLeaves dst j ls').1, (instLeaves dst j ls').2)) ∨
    (∃ i c f xs g ys x, r.2 = some (i, c) ∧ σ.look r.1 = some (.data f xs) ∧ y = .one (.od g ys) ∧ putCell f (xs.getD i f.zero) c g ys = some x ∧ p = (.data f (xs.set i x), [])) := by
  unfold ioUp at hp
  cases hic : r.2 with
  | none =>
    rw [hic] at hp
    simp only at hp
    cases hr : σ.look r.1 with
    | none => rw [hr] at hp; cases hp
    | some row =>
      rw [hr] at hp
      cases row with
      | dead => cases hp
      | hol => cases y <;> cases hp
      | data f xs =>
        cases y with
        | agg ls => cases hp
        | one l =>
          cases l <;> simp only at hp <;> try (cases hp; done)
          rename_i g xs'
          cases hd : decide (g = f) <;> simp only [hd, cond_true, cond_false] at hp
          · cases hp
          rw [decide_eq_true_eq] at hd; subst hd
          obtain rfl := Option.some.inj hp
          exact .inl ⟨rfl, g, xs, xs', rfl, rfl, rfl⟩
      | box f ls =>
        cases y with
        | one l => cases l <;> cases hp
        | agg ls' =>
          simp only at hp
          cases hd : Nat.beq ls'.length f.size <;> simp only [hd, cond_true, cond_false] at hp
          · cases hp
          obtain rfl := Option.some.inj hp
          exact .inr (.inl ⟨rfl, f, ls, ls', rfl, rfl, Nat.eq_of_beq_eq_true hd, rfl⟩)
  | some ic =>
    obtain ⟨i, c⟩ := ic
    rw [hic] at hp
    simp only at hp
    cases hr : σ.look r.1 with
    | none => rw [hr] at hp; cases hp
    | some row =>
      rw [hr] at hp
      cases row with
      | dead => cases hp
      | hol => cases y <;> cases hp
      | box f ls => cases y <;> cases hp
      | data f xs =>
        cases y with
        | agg ls => cases hp
        | one l =>
          cases l <;> simp only at hp <;> try (cases hp; done)
          rename_i g ys
          obtain ⟨x, hx, rfl⟩ := Option.map_eq_some_iff.mp hp
          exact .inr (.inr ⟨i, c, f, xs, g, ys, x, rfl, rfl, rfl, hx, rfl⟩)
theorem ioUps_at {dst : Option Nat} : ∀ {ios : List (Nat × Option (Nat × Nat))} {ys : List TV} {j : Nat} {ups news : List (Nat × ARow)}, ioUps σ dst j ios ys = some (ups, news) → ios.length = ys.length ∧ ups.map (·.1) = ios.map (·.1) ∧
    (∀ {i : Nat} {r : Nat × Option (Nat × Nat)} {y : TV}, ios[i]? = some r → ys[i]? = some y → ∃ row, (r.1, row) ∈ ups ∧ ((r.2 = none ∧ ∃ f xs xs', σ.look r.1 = some (.data f xs) ∧ y = .one (.od f xs') ∧ row = .data f xs') ∨
      (r.2 = none ∧ ∃ f ls ls', σ.look r.1 = some (.box f ls) ∧ y = .agg ls' ∧ ls'.length = f.size ∧ row = .box f (instLeaves dst (j + offT ys i) ls').1 ∧ ∀ p ∈ (instLeaves dst (j + offT ys i) ls').2, p ∈ news) ∨
      (∃ e c f xs g zs x, r.2 = some (e, c) ∧ σ.look r.1 = some (.data f xs) ∧ y = .one (.od g zs) ∧ putCell f (xs.getD e f.zero) c g zs = some x ∧ row = .data f (xs.set e x)))) ∧
    (∀ p ∈ news, ∃ i r ls', ios[i]? = some r ∧ ys[i]? = some (.agg ls') ∧ p ∈ (instLeaves dst (j + offT ys i) ls').2)
  | [], [], j, ups, news, h => by
    simp only [ioUps, Option.some.injEq, Prod.mk.injEq] at h
    obtain ⟨rfl, rfl⟩ := h
    exact ⟨rfl, rfl, fun h => by simp at h, fun p h => by simp at h⟩
  | [], _ :: _, j, ups, news, h => by simp [ioUps] at h
  | _ :: _, [], j, ups, news, h => by simp [ioUps] at h
  | r0 :: rs, y0 :: ys, j, ups, news, h => by
    simp only [ioUps] at h
    obtain ⟨p, hp, h⟩ := Option.bind_eq_some_iff.mp h
    obtain ⟨q, hq, h⟩ := Option.bind_eq_some_iff.mp h
    obtain ⟨rfl, rfl⟩ := Prod.mk.inj (Option.some.inj h)
    obtain ⟨k1, k2, k3, k4⟩ := ioUps_at (ups := q.1) (news := q.2) hq
    have hj : ∀ i, j + y0.leaves.length + offT ys i = j + offT (y0 :: ys) (i + 1) := fun i => by rw [offT_succ]; omega
    refine ⟨by simp [k1], by simp [k2], fun {i r y} h1 h2 => ?_, fun x hx => ?_⟩
    · cases i with
      | zero =>
        simp at h1 h2; subst h1 h2
        refine ⟨p.1, List.mem_cons_self .., ?_⟩
        rcases ioUp_of hp with ⟨hn, f, xs, xs', hr, e, rfl⟩ | ⟨hn, f, ls, ls', hr, e, e3, rfl⟩ | ⟨e, c, f, xs, g, zs, x, hn, hr, e1, e2, rfl⟩
        · exact .inl ⟨hn, f, xs, xs', hr, e, rfl⟩
        · refine .inr (.inl ⟨hn, f, ls, ls', hr, e, e3, by rw [offT_zero]; rfl, fun x hx => ?_⟩)
          rw [offT_zero] at hx
          exact List.mem_append_left _ hx
        · exact .inr (.inr ⟨e, c, f, xs, g, zs, x, hn, hr, e1, e2, rfl⟩)
      | succ i =>
        obtain ⟨row, h3, h4⟩ := k3 (i := i) (by simpa using h1) (by simpa using h2)
        refine ⟨row, List.mem_cons_of_mem _ h3, ?_⟩
        rcases h4 with h4 | ⟨hn, f, ls, ls', e1, e2, e3, e4, e5⟩ | h4
        · exact .inl h4
        · rw [hj] at e4 e5
          exact .inr (.inl ⟨hn, f, ls, ls', e1, e2, e3, e4, fun x hx => List.mem_append_right _ (e5 x hx)⟩)
        · exact .inr (.inr h4)
    · rcases List.mem_append.mp hx with hx | hx
      · rcases ioUp_of hp with ⟨hn, f, xs, xs', hr, e, rfl⟩ | ⟨hn, f, ls, ls', hr, e, e3, rfl⟩ | ⟨e, c, f, xs, g, zs, x, hn, hr, e1, e2, rfl⟩
        · simp at hx
        · exact ⟨0, r0, ls', rfl, by rw [e]; rfl, by rw [offT_zero]; exact hx⟩
        · simp at hx
      · obtain ⟨i, r, ls', e1, e2, e3⟩ := k4 x hx
        rw [hj] at e3
        exact ⟨i + 1, r, ls', by simpa using e1, by simpa using e2, e3⟩
theorem look_setUps : ∀ {us : List (Nat × ARow)} {σ : St} {r : Nat}, (r ∉ us.map (·.1) → (setUps σ us).look r = σ.look r) ∧ (distinct (us.map (·.1)) = true → ∀ row, (r, row) ∈ us → (setUps σ us).look r = some row)
  | [], σ, r => ⟨fun _ => rfl, fun _ row h => by simp at h⟩
  | (r0, row0) :: us, σ, r => by
    obtain ⟨k1, k2⟩ := look_setUps (us := us) (σ := σ.setRow r0 row0) (r := r)
    refine ⟨fun h => ?_, fun hd row h => ?_⟩
    · simp only [List.map_cons, List.mem_cons, not_or] at h
      show (setUps (σ.setRow r0 row0) us).look r = _
      rw [k1 h.2, look_setRow, if_neg h.1]
    · simp only [List.map_cons, distinct] at hd
      cases hm : memN r0 (us.map (·.1)) <;> simp only [hm, cond_true, cond_false] at hd
      · show (setUps (σ.setRow r0 row0) us).look r = _
        rcases List.mem_cons.mp h with e | h
        · obtain ⟨rfl, rfl⟩ := Prod.mk.inj e
          rw [k1 (fun hc => by rw [memN_iff.mpr hc] at hm; cases hm), look_setRow, if_pos rfl]
        · exact k2 hd row h
      · cases hd
theorem setUps_slots : ∀ (us : List (Nat × ARow)) (σ : St), (setUps σ us).slots = σ.slots ∧ (setUps σ us).pins = σ.pins
  | [], σ => ⟨rfl, rfl⟩
  | (r, row) :: us, σ => setUps_slots us (σ.setRow r row)
end
end Go.Proofs.Ytalmhjlcjcnidaa.Ev

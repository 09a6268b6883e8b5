/- The pure part of the law FnExactExec, second half: what the program computes answers as the statement says, for every input. -/
import Derived.Test.YtklgakikhdompaaGreatEvPureAFnExactExec
set_option linter.all false
namespace Go.Proofs.YtklgakikhdompaaGreat.Ev
open Go
theorem idx_pos {α : Type} {p : α → Bool} {l : List α} (h : ∃ y ∈ l, p y = true) : 0 ≤ idx p l := by
 by_cases c : 0 ≤ idx p l
 ·exact c
 ·obtain ⟨y, hy, hp⟩ := h
  rw [(idx_neg p l).mp c y hy] at hp; cases hp
theorem impl_RowSet_ok : EV fun n => ∀ (x : T_Table) (l : T_RowS) (key : T_ValS) (r : T_Row), sm_Table 1048576 x → sm_RowS 1048576 l → key.length ≤ 1048576 → r.length ≤ 1048576 → impl_RowSet n x.1 x.2.1 x.2.2 l key r = some (cRowSet x l key r) := (impl_RowsOk_ok.and (impl_rowOk_ok.and (impl_keyOf_ok.and (impl_rowAt_ok.and (impl_placed_ok.and (impl_KeyOk_ok.and (impl_copyRows_ok.and (slices_EqualVal_ok.and (EV.gt 0))))))))).up fun n ⟨h1, h2, h3, h4, h5, h6, h7, h8, hn⟩ x l key r hs hl hkl hrl => by
 obtain ⟨m, rfl⟩ : ∃ m, n = m + 1 := ⟨n - 1, by omega⟩
 have hll := hl.1
 simp only [impl_RowSet, h1 x l hs hl.1, h6 x key hs, zC, cRowSet]
 cases hr : cRowsOk x l
 ·simp
 have ht := (rows_in hr).1
 simp only [zT, zA, if_true, h2 x r hs ht, zC, h4 x l _ hs hl.1 ht (rows_lens hr)]
 cases hi : cRowIn x.2.1 r
 ·simp
 cases hk : cKeyOk x key
 ·simp
 simp only [zT, zA, if_true, true_and, h3 x r hs ht (rowIn_len hi), zC, h7 l hl, h4 x l _ hs hl.1 ht (rows_lens hr), slices_Delete_impl_Row_impl_Row]
 rw [show idx (fun y => decide (cKeyOf x.2.1 x.2.2 y = key)) l = keyIdx x l key from rfl]
 have hat : ∀ i : Nat, keyIdx x l key = (i : Int) → ∃ h : i < l.length, cKeyOf x.2.1 x.2.2 l[i] = key := fun i e => by
  obtain ⟨a, b⟩ := idx_at (fun y => decide (cKeyOf x.2.1 x.2.2 y = key)) l 0 i (by rw [zS]; exact e)
  exact ⟨a, of_decide_eq_true b⟩
 obtain ⟨b1, b2⟩ : -1 ≤ keyIdx x l key ∧ keyIdx x l key < (l.length : Int) := idx_lt _ _
 generalize keyIdx x l key = i at b1 b2 hat
 by_cases c : i < 0
 ·rw [zD c, if_neg (by omega)]; rfl
 obtain ⟨i, rfl⟩ := Int.eq_ofNat_of_zero_le (show 0 ≤ i by omega)
 obtain ⟨hil, hat⟩ := hat i rfl
 have hw := rows_without hr i
 rw [zK c, if_pos (by omega)]
 have e8 : slices_Equal_impl_Val_impl_Val (m + 1) (cKeyOf x.2.1 x.2.2 r) key = some (decide (cKeyOf x.2.1 x.2.2 r = key)) := by first | exact h8 _ _ (by rw [keyOf_len]; exact hs.2.2.1) | exact h8 _ _ (by rw [keyOf_len]; exact hs.2.2.1) hkl
 simp only [zA, e8, zC, wrap_succ hil (by omega), del1 hil, zE, h5 x (without l i) r hs (sm_without hl) hrl ht (rows_lens hw) (rowIn_len hi)]
 rw [show idx (fun y => decide (cKeyOf x.2.1 x.2.2 y = cKeyOf x.2.1 x.2.2 r)) l = keyIdx x l (cKeyOf x.2.1 x.2.2 r) from rfl]
 by_cases e : cKeyOf x.2.1 x.2.2 r = key
 ·rw [zD e]
  have hno : ¬ 0 ≤ keyIdx x (without l i) (cKeyOf x.2.1 x.2.2 r) := by
   refine (idx_neg _ _).mpr fun y hy => zK fun hy2 => ?_
   obtain ⟨j, hj, rfl⟩ := List.mem_iff_getElem.mp hy
   obtain ⟨g1, g2⟩ := without_get hj
   rw [g2, e, ← hat] at hy2
   have := keys_inj hr g1 hil hy2
   split at this <;> omega
  rw [if_neg hno]; rfl
 ·rw [zK e]
  simp only [zU, zB]
  have hiff : 0 ≤ keyIdx x l (cKeyOf x.2.1 x.2.2 r) ↔ 0 ≤ keyIdx x (without l i) (cKeyOf x.2.1 x.2.2 r) := by
   constructor
   ·intro h
    obtain ⟨q, hq⟩ := Int.eq_ofNat_of_zero_le h
    obtain ⟨a, b⟩ := idx_at (fun y => decide (cKeyOf x.2.1 x.2.2 y = cKeyOf x.2.1 x.2.2 r)) l 0 q (by rw [zS]; exact hq)
    refine idx_pos ⟨l[q], without_mem' a ?_, b⟩
    rintro rfl
    exact e ((of_decide_eq_true b).symm.trans hat)
   ·intro h
    obtain ⟨q, hq⟩ := Int.eq_ofNat_of_zero_le h
    obtain ⟨a, b⟩ := idx_at (fun y => decide (cKeyOf x.2.1 x.2.2 y = cKeyOf x.2.1 x.2.2 r)) (without l i) 0 q (by rw [zS]; exact hq)
    exact idx_pos ⟨_, without_mem (zL a), b⟩
  by_cases c2 : 0 ≤ keyIdx x l (cKeyOf x.2.1 x.2.2 r)
  ·rw [zD c2, if_pos (hiff.mp c2)]; rfl
  ·rw [zK c2, if_neg (fun h => c2 (hiff.mpr h))]; rfl
theorem same_RowSet : EV fun n => ∀ (x0 : T_Table) (x1 : T_RowS) (x2 : T_ValS) (x3 : T_Row), sm_Table 1048576 x0 → sm_RowS 1048576 x1 → sm_ValS 1048576 x2 → sm_Row 1048576 x3 → ∃ r, spec_RowSet n x0.1 x0.2.1 x0.2.2 x1 x2 x3 = some r ∧ impl_RowSet n x0.1 x0.2.1 x0.2.2 x1 x2 x3 = some r ∧ sm_RowS 1048576 r.1 :=
 (spec_RowSet_ok.and impl_RowSet_ok).mono fun n ⟨h1, h2⟩ x l key r hx hl hk hr => ⟨_, h1 x l key r hx hl hr.1, h2 x l key r hx hl hk.1 hr.1, by
  unfold cRowSet
  split
  ·rename_i h
   split
   ·split
    ·split
     ·exact smr_nil
     ·exact sm_placed (sm_without hl) (Nat.le_trans (without_len _ _) (rows_in h).2.1) hr
    ·exact smr_nil
   ·exact smr_nil
  ·exact smr_nil⟩
def lessT (a b : ByteArray) : Bool := Op.bytesLess a.toList b.toList
theorem lessT_irr (a : ByteArray) : lessT a a = false := by
 have := (bytesLess_tri a.toList a.toList).1
 rwa [Bool.and_self] at this
theorem lessT_tri {a b : ByteArray} (h : lessT a b = false) (hne : a ≠ b) : lessT b a = true := by
 have := (bytesLess_tri a.toList b.toList).2
 have e : ¬ a.toList = b.toList := fun e => hne (by rw [text_eq'] at e; exact e)
 simp only [lessT] at h ⊢
 rw [h, Bool.false_or, zK e] at this
 exact this
theorem lessT_trans {a b c : ByteArray} (h : lessT a b = true) (h2 : lessT b c = true) : lessT a c = true := bytesLess_trans h h2
theorem lessT_asymm {a b : ByteArray} (h : lessT a b = true) : lessT b a = false := by
 cases h2 : lessT b a
 ·rfl
 ·have := lessT_trans h h2
  rw [lessT_irr] at this; cases this
def hasT (l : List ByteArray) (s : ByteArray) : Bool := l.any fun x => decide (x = s)
def tAt (l : T_TableS) (s : ByteArray) : Int := idx (fun t : T_Table => decide (t.1 = s)) l
theorem tAt_pos {l : T_TableS} {s : ByteArray} : 0 ≤ tAt l s ↔ ∃ t ∈ l, t.1 = s := by
 constructor
 ·intro h
  refine Classical.byContradiction fun hn => ?_
  refine (idx_neg (fun t : T_Table => decide (t.1 = s)) l).mpr (fun t ht => ?_) h
  exact zK fun e => hn ⟨t, ht, e⟩
 ·rintro ⟨t, ht, e⟩
  exact idx_pos ⟨t, ht, zD e⟩
theorem cat_rising {l : T_TableS} (h : cCatOk l = true) : ∀ i j (hi : i < j) (hj : j < l.length), lessT l[i].1 l[j].1 = true := by
 have hstep : ∀ k (hk : k + 1 < l.length), lessT l[k].1 l[k + 1].1 = true := fun k hk => by
  simp only [cCatOk, zJ, zG] at h
  have := allFrom_get h.2 hk
  simp only [cCatStep, zJ, Bool.or_eq_true, zG] at this
  rcases this.2 with e | e
  ·omega
  ·simp only [Nat.add_sub_cancel] at e
   rw [getD_at (show k < l.length by omega)] at e
   exact e
 intro i j hi
 induction j with
 | zero => omega
 | succ j ih =>
  intro hj
  rcases zE1 i j with c | c
  ·exact lessT_trans (ih c (by omega)) (hstep j hj)
  ·have : i = j := by omega
   subst this; exact hstep _ hj
theorem tAt_at {l : T_TableS} (h : cCatOk l = true) {k : Nat} (hk : k < l.length) : tAt l l[k].1 = (k : Int) := by
 have hp : 0 ≤ tAt l l[k].1 := tAt_pos.mpr ⟨l[k], zL hk, rfl⟩
 obtain ⟨i, e⟩ := Int.eq_ofNat_of_zero_le hp
 obtain ⟨hi, e2⟩ := idx_at (fun t : T_Table => decide (t.1 = l[k].1)) l 0 i (by rw [zS]; exact e)
 rw [zG] at e2
 rw [e]
 rcases zE1 i k with c | c
 ·have := cat_rising h i k c hk
  rw [e2, lessT_irr] at this; cases this
 ·rcases zE1 k i with c2 | c2
  ·have := cat_rising h k i c2 hi
   rw [e2, lessT_irr] at this; cases this
  ·have : i = k := by omega
   rw [this]
theorem tAt_cases (l : T_TableS) (s : ByteArray) : tAt l s < 0 ∨ ∃ k : Nat, tAt l s = (k : Int) ∧ k < l.length := by
 obtain ⟨b1, b2⟩ := idx_lt (fun t : T_Table => decide (t.1 = s)) l
 rw [show idx (fun t : T_Table => decide (t.1 = s)) l = tAt l s from rfl] at b1 b2
 by_cases c : 0 ≤ tAt l s
 ·obtain ⟨k, e⟩ := Int.eq_ofNat_of_zero_le c
  exact .inr ⟨k, e, by omega⟩
 ·exact .inl (by omega)
theorem slices_IndexStr_ok : EV fun n => ∀ (l : List ByteArray) (s : ByteArray), l.length ≤ 1048576 → slices_Index_string_string n l s = some (idx (fun x => decide (s = x)) l) := (EV.gt 1048577).up fun n hn l s hl => by
 rw [slices_Index_string_string]
 refine find_loop (fun x => decide (s = x)) l (fun j k => slices_Index_string_string_L1 n j l s (l.length : Int) (k : Int)) (fun j => ?_) (fun j k hk => ?_) l n 0 rfl (by omega) (by omega)
 ·simp only [slices_Index_string_string_L1, lt_cast, zP, zH, zA]
 ·simp only [slices_Index_string_string_L1, lt_cast, zD hk, inR_true hk, zE, getD_at hk, zB, wrap_succ hk (by omega), text_eq]
  exact bif_step' _ _
theorem hasT_idx (l : List ByteArray) (s : ByteArray) : decide ((0 : Int) ≤ idx (fun x => decide (s = x)) l) = hasT l s := by
 rw [idx, idx_any]
 simp only [hasT]
 congr 1
 funext x
 rw [decide_eq_decide]
 exact ⟨fun h => h.symm, fun h => h.symm⟩
theorem slices_ContainsStr_ok : EV fun n => ∀ (l : List ByteArray) (s : ByteArray), l.length ≤ 1048576 → slices_Contains_string_string n l s = some (hasT l s) := slices_IndexStr_ok.up fun n h l s hl => by
 simp only [slices_Contains_string_string, h l s hl, zC, hasT_idx]
theorem spec_l02Has_ok : EV fun n => ∀ (l : List ByteArray) (s : ByteArray), l.length ≤ 1048576 → spec_l02Has n l s = some (hasT l s) := (EV.gt 1048577).up fun n hn l s hl => by
 rw [spec_l02Has]
 have key : ∀ (t : List ByteArray) (j k : Nat), l.drop k = t → k ≤ l.length → t.length < j → spec_l02Has_L1 n j s l (l.length : Int) (k : Int) = some (hasT t s) := by
  intro t
  induction t with
  | nil =>
   intro j k hdr hk hj
   obtain ⟨j, rfl⟩ : ∃ i, j = i + 1 := ⟨j - 1, by simp at hj; omega⟩
   have : k = l.length := by
    rcases zE1 k l.length with h' | h'
    ·rw [zC1 h'] at hdr; cases hdr
    ·omega
   subst this
   simp only [spec_l02Has_L1, lt_cast, zP, zH, zA]; rfl
  | cons x t ih =>
   intro j k hdr hk hj
   obtain ⟨j, rfl⟩ : ∃ i, j = i + 1 := ⟨j - 1, by simp at hj; omega⟩
   obtain ⟨h2, h3, h4⟩ := drop_cons hdr E0
   rw [getD_at h2] at h3
   simp only [spec_l02Has_L1, lt_cast, zD h2, inR_true h2, zE, getD_at h2, h3, zB, wrap_succ h2 (by omega), text_eq]
   rw [ih j (k + 1) h4 (by omega) (by simp at hj; omega)]
   simp only [hasT, List.any_cons]
   cases decide (x = s) <;> rfl
 exact key l n 0 rfl (by omega) (by omega)
def cFault (x : T_Table) (d : T_Ddl) : Int :=
 if d.1 = 3 then (if 0 ≤ cColAt x.2.1 (d.2.2.1.getD 0 CZ).1 then 5 else if x.2.1.length = 8 then 6 else 0) else
 if d.1 = 4 then (if cColAt x.2.1 d.2.2.2.2.1 < 0 then 7 else if hasT x.2.2 d.2.2.2.2.1 = true then 8 else 0) else
 if d.1 = 5 then (if 0 ≤ cColAt x.2.1 d.2.2.2.2.2 then 5 else if cColAt x.2.1 d.2.2.2.2.1 < 0 then 7 else 0) else 0
theorem bif_dec {p : Prop} [Decidable p] {α : Type} (x y : α) : (bif decide p then x else y) = if p then x else y := by by_cases h : p <;> simp [h]
theorem spec_l02Fault_ok : EV fun n => ∀ (x : T_Table) (d : T_Ddl), sm_Table 1048576 x → cDdlOk d = true → spec_l02Fault n x.1 x.2.1 x.2.2 d.1 d.2.1 d.2.2.1 d.2.2.2.1 d.2.2.2.2.1 d.2.2.2.2.2 = some (cFault x d) := (spec_ColAt_ok.and spec_l02Has_ok).up fun n ⟨h1, h2⟩ x d hs hd => by
 have hc := hs.2.1.1
 have hk := hs.2.2.1
 simp only [spec_l02Fault, h1 _ _ _ _ hc, h2 _ _ hk, zC, int_beq, cFault]
 by_cases k3 : d.1 = 3
 ·obtain ⟨c, hcs, _⟩ := ddlOk_3 hd k3
  simp only [k3, zI, zB, if_true, hcs, List.length_singleton, inR0, Int.toNat_zero, List.getD_cons_zero, bif_dec]
  split
  ·rfl
  ·by_cases h8 : x.2.1.length = 8
   ·rw [if_pos (by omega), if_pos h8]
   ·rw [if_neg (by omega), if_neg h8]
 by_cases k4 : d.1 = 4
 ·simp only [k4, show ¬ (4 : Int) = 3 by decide, zH, zI, zB, zA, if_true, if_false, bif_dec]
  split
  ·rfl
  ·cases hasT x.2.2 d.2.2.2.2.1 <;> rfl
 by_cases k5 : d.1 = 5
 ·simp only [k5, show ¬ (5 : Int) = 3 by decide, show ¬ (5 : Int) = 4 by decide, zH, zI, zB, zA, if_true, if_false, bif_dec]
  split
  ·rfl
  ·split <;> rfl
 ·simp only [k3, k4, k5, zH, zA, if_false]
def cCode (l : T_TableS) (d : T_Ddl) : Int :=
 if d.1 = 1 then (if 0 ≤ tAt l d.2.1 then 2 else if l.length = 6 then 3 else 0) else
 if tAt l d.2.1 < 0 then 4 else cFault (l.getD (tAt l d.2.1).toNat noTable) d
theorem impl_ddlCode_ok : EV fun n => ∀ (l : T_TableS) (d : T_Ddl), sm_TableS 1048576 l → cDdlOk d = true → impl_ddlCode n l d.1 d.2.1 d.2.2.1 d.2.2.2.1 d.2.2.2.2.1 d.2.2.2.2.2 = some (cCode l d) := (impl_Cat_at_ok.and (impl_ColAt_ok.and slices_ContainsStr_ok)).up fun n ⟨h1, h2, h3⟩ l d hs hd => by
 have e := h1 l d.2.1 hs.1
 rw [show idx (fun t : T_Table => decide (t.1 = d.2.1)) l = tAt l d.2.1 from rfl] at e
 simp only [impl_ddlCode, e, zC, int_beq, cCode]
 by_cases k1 : d.1 = 1
 ·simp only [k1, zI, zB, if_true, bif_dec]
  split
  ·rfl
  ·by_cases h8 : l.length = 6
   ·rw [if_pos (by omega), if_pos h8]
   ·rw [if_neg (by omega), if_neg h8]
 rcases tAt_cases l d.2.1 with c | ⟨i, ei, hi⟩
 ·simp only [k1, zH, zA, if_false, zD c, zB, if_pos c]
 have z : ¬ ((i : Int) < 0) := by omega
 simp only [ei, k1, zH, zA, if_false, zK z, if_neg z, inR_true hi, zB, zE, getD_at hi]
 have hx := hs.2 _ (zL hi)
 generalize l[i] = x at hx
 have hc := hx.2.1.1
 have hk := hx.2.2.1
 have h2' : ∀ s, impl_ColAt n x.1 x.2.1 x.2.2 s = some (cColAt x.2.1 s) := fun s => h2 _ _ _ _ hc
 simp only [h2', h3 _ _ hk, zC, cFault]
 by_cases k3 : d.1 = 3
 ·obtain ⟨c, hcs, _⟩ := ddlOk_3 hd k3
  simp only [k3, zI, zB, if_true, hcs, List.length_singleton, inR0, Int.toNat_zero, List.getD_cons_zero, bif_dec, show ¬ (3 : Int) = 5 by decide, show ¬ (3 : Int) = 4 by decide, if_false]
  split
  ·rfl
  ·by_cases h8 : x.2.1.length = 8
   ·rw [if_pos (by omega), if_pos h8]
   ·rw [if_neg (by omega), if_neg h8]
 by_cases k4 : d.1 = 4
 ·simp only [k4, show ¬ (4 : Int) = 3 by decide, show ¬ (4 : Int) = 5 by decide, zH, zI, zB, zA, if_true, if_false, bif_dec]
  split
  ·rfl
  ·cases hasT x.2.2 d.2.2.2.2.1 <;> rfl
 by_cases k5 : d.1 = 5
 ·simp only [k5, show ¬ (5 : Int) = 3 by decide, show ¬ (5 : Int) = 4 by decide, zH, zI, zB, zA, if_true, if_false, bif_dec]
  split
  ·rfl
  ·split <;> rfl
 ·simp only [k3, k4, k5, zH, zA, if_false]
theorem spec_l02Copy_ok : EV fun n => ∀ l : T_TableS, sm_TableS 1048576 l → spec_l02Copy n l = some l := (spec_l02Table_ok.and (EV.gt 1048577)).up fun n ⟨h, hn⟩ l hs => by
 have hl := hs.1
 simp only [spec_l02Copy]
 refine (map_loop l id (fun j k acc => spec_l02Copy_L1 n j l (l.length : Int) (k : Int) [] acc) (fun j acc => ?_) (fun j k acc hk ha => ?_) l n 0 [] rfl (by omega) (by omega) rfl).trans (by simp)
 ·simp only [spec_l02Copy_L1, lt_cast, zP, zH, zA]
 ·have e := h l[k] (hs.2 _ (zL hk))
  have r3 : ∀ x : T_Table, room (acc.length + [x].length) 64 = true := fun x => by simp only [room, zG, zW, zX]; omega
  simp only [spec_l02Copy_L1, lt_cast, zD hk, inR_true hk, zE, getD_at hk, zB, wrap_succ hk (by omega), e, zC, r3, id]
theorem impl_copyCat_ok : EV fun n => ∀ l : T_TableS, sm_TableS 1048576 l → impl_copyCat n l = some l := (impl_copyTable_ok.and (EV.gt 1048577)).up fun n ⟨h, hn⟩ l hs => by
 have hl := hs.1
 simp only [impl_copyCat]
 refine (map_loop l id (fun j k acc => impl_copyCat_L1 n j l (l.length : Int) (k : Int) [] acc) (fun j acc => ?_) (fun j k acc hk ha => ?_) l n 0 [] rfl (by omega) (by omega) rfl).trans (by simp)
 ·simp only [impl_copyCat_L1, lt_cast, zP, zH, zA]
 ·have e := h l[k] (hs.2 _ (zL hk))
  have r3 : ∀ x : T_Table, room (acc.length + [x].length) 64 = true := fun x => by simp only [room, zG, zW, zX]; omega
  simp only [impl_copyCat_L1, lt_cast, zD hk, inR_true hk, zE, getD_at hk, zB, wrap_succ hk (by omega), e, zC, r3, id]
def putTb (t : T_Table) : T_TableS → T_TableS
 | [] => [t]
 | x :: l => if lessT t.1 x.1 = true then t :: x :: l else x :: putTb t l
def putF (t : T_Table) : T_TableS → Bool → T_TableS → T_TableS
 | [], d, acc => if d = true then acc else acc ++ [t]
 | x :: l, d, acc => if d = false ∧ lessT t.1 x.1 = true then putF t l true (acc ++ [t] ++ [x]) else putF t l d (acc ++ [x])
theorem putF_done (t : T_Table) : ∀ (l : T_TableS) (acc : T_TableS), putF t l true acc = acc ++ l
 | [], acc => by simp [putF]
 | x :: l, acc => by
  simp only [putF, Bool.true_eq_false, false_and, if_false]
  rw [putF_done t l]; simp
theorem putF_eq (t : T_Table) : ∀ (l : T_TableS) (acc : T_TableS), putF t l false acc = acc ++ putTb t l
 | [], acc => by simp [putF, putTb]
 | x :: l, acc => by
  simp only [putF, true_and, putTb]
  split
  ·rw [putF_done]; simp
  ·rw [putF_eq t l]; simp
theorem spec_l02Put_ok : EV fun n => ∀ (l : T_TableS) (x : T_Table), l.length ≤ 1048576 → spec_l02Put n l x.1 x.2.1 x.2.2 = some (putTb x l) := (EV.gt 1048577).up fun n hn l x hl => by
 have key : ∀ (t : T_TableS) (j k : Nat) (d : Bool) (acc : T_TableS), l.drop k = t → k ≤ l.length → t.length < j → acc.length ≤ k + d.toNat →
   spec_l02Put_L1 n j d l (l.length : Int) (k : Int) x.1 x.2.1 x.2.2 [] acc = some (putF x t d acc) := by
  intro t
  induction t with
  | nil =>
   intro j k d acc hdr hk hj ha
   obtain ⟨j, rfl⟩ : ∃ i, j = i + 1 := ⟨j - 1, by simp at hj; omega⟩
   have : k = l.length := by
    rcases zE1 k l.length with h' | h'
    ·rw [zC1 h'] at hdr; cases hdr
    ·omega
   subst this
   have hd1 : d.toNat ≤ 1 := by cases d <;> decide
   have r : room (acc.length + [x].length) 64 = true := by simp only [room, zG, zW, zX]; omega
   simp only [spec_l02Put_L1, lt_cast, zP, zH, zA, putF]
   rw [show [(x.1, (x.2.1, x.2.2))] = [x] from rfl, r]
   cases d <;> rfl
  | cons y t ih =>
   intro j k d acc hdr hk hj ha
   obtain ⟨j, rfl⟩ : ∃ i, j = i + 1 := ⟨j - 1, by simp at hj; omega⟩
   obtain ⟨h2, h3, h4⟩ := drop_cons hdr noTable
   rw [getD_at h2] at h3
   have hd1 : d.toNat ≤ 1 := by cases d <;> decide
   have hj' : t.length < j := by simp at hj; omega
   have r1 : room (acc.length + [x].length) 64 = true := by simp only [room, zG, zW, zX]; omega
   have r2 : room ((acc ++ [x]).length + [y].length) 64 = true := by simp only [room, zG, List.length_append, zW, zX]; omega
   have r3 : room (acc.length + [y].length) 64 = true := by simp only [room, zG, zW, zX]; omega
   simp only [spec_l02Put_L1, lt_cast, zD h2, inR_true h2, zE, getD_at h2, h3, zB, wrap_succ h2 (by omega), putF]
   rw [show [(x.1, (x.2.1, x.2.2))] = [x] from rfl, show [(y.1, (y.2.1, y.2.2))] = [y] from rfl, r1, r2, r3]
   simp only [zB]
   have i1 := ih j (k + 1) d (acc ++ [y]) h4 (by omega) hj'
   cases d
   ·simp only [zU, zB, true_and]
    cases c : lessT x.1 y.1
    ·rw [show Op.bytesLess x.1.toList y.1.toList = false from c, zA, if_neg (by simp)]
     exact i1 (by simp at ha ⊢; omega)
    ·rw [show Op.bytesLess x.1.toList y.1.toList = true from c, zB, if_pos rfl]
     exact ih j (k + 1) true (acc ++ [x] ++ [y]) h4 (by omega) hj' (by simp at ha ⊢; omega)
   ·simp only [zT, zA, Bool.true_eq_false, false_and, if_false]
    exact i1 (by simp at ha ⊢; omega)
 simp only [spec_l02Put]
 refine (key l n 0 false [] rfl (by omega) (by omega) (by simp)).trans ?_
 rw [putF_eq]; rfl
def chCol (d : T_Ddl) (c : T_Col) : T_Col := if d.1 = 5 ∧ c.1 = d.2.2.2.2.1 then (d.2.2.2.2.2, c.2) else c
def chKey (d : T_Ddl) (k : ByteArray) : ByteArray := if d.1 = 5 ∧ k = d.2.2.2.2.1 then d.2.2.2.2.2 else k
def chOut (d : T_Ddl) (c : T_Col) : Bool := decide (d.1 = 4) && decide (c.1 = d.2.2.2.2.1)
def cChange (x : T_Table) (d : T_Ddl) : T_Table := (x.1, ((x.2.1.filter fun c => !chOut d c).map (chCol d) ++ (if d.1 = 3 then [d.2.2.1.getD 0 CZ] else []), x.2.2.map (chKey d)))
theorem filter_map_fold {α β : Type} (p : α → Bool) (f : α → β) : ∀ (l : List α) (k : Nat) (acc : List β), foldI (fun _ x s => if p x = true then s else s ++ [f x]) k l acc = acc ++ (l.filter fun x => !p x).map f
 | [], k, acc => by simp [foldI]
 | x :: l, k, acc => by
  simp only [foldI]
  rw [filter_map_fold p f l]
  by_cases c : p x = true
  ·simp [c]
  ·simp [c]
theorem spec_l02Change_ok : EV fun n => ∀ (x : T_Table) (d : T_Ddl), sm_Table 1048576 x → cDdlOk d = true → spec_l02Change n x.1 x.2.1 x.2.2 d.1 d.2.1 d.2.2.1 d.2.2.2.1 d.2.2.2.2.1 d.2.2.2.2.2 = some (cChange x d) := (EV.gt 1048577).up fun n hn x d hs hd => by
 have hcl := hs.2.1.1
 have hkl := hs.2.2.1
 have hL2 : ∀ (cs : T_ColS), cs.length ≤ 1048576 → ∀ (t : List ByteArray) (j k : Nat) (s : List ByteArray), s.drop k = t → k ≤ s.length → t.length < j → s.length ≤ 1048576 →
   spec_l02Change_L2 n j (s.length : Int) (k : Int) d.1 d.2.1 d.2.2.1 d.2.2.2.1 d.2.2.2.2.1 d.2.2.2.2.2 E0 [] [] x.1 cs s = some (x.1, (cs ++ (if d.1 = 3 then [d.2.2.1.getD 0 CZ] else []), s.take k ++ t.map (chKey d))) := by
  intro cs hcs t
  induction t with
  | nil =>
   intro j k s hdr hk hj hsl
   obtain ⟨j, rfl⟩ : ∃ i, j = i + 1 := ⟨j - 1, by simp at hj; omega⟩
   have : k = s.length := by
    rcases zE1 k s.length with h' | h'
    ·rw [zC1 h'] at hdr; cases hdr
    ·omega
   subst this
   simp only [spec_l02Change_L2, lt_cast, zP, zH, zA, int_beq, List.take_length, List.map_nil, zH1]
   by_cases k3 : d.1 = 3
   ·obtain ⟨c, hc, _⟩ := ddlOk_3 hd k3
    simp only [k3, hc, zI, zB, if_true, List.length_singleton, inR0, Int.toNat_zero, List.getD_cons_zero]
    have r' : room (cs.length + 1) 64 = true := by simp only [room, zG]; omega
    rw [show [(c.1, (c.2.1, (c.2.2.1, (c.2.2.2.1, (c.2.2.2.2.1, (c.2.2.2.2.2.1, c.2.2.2.2.2.2))))))] = [c] from rfl, r']; rfl
   ·simp only [k3, zH, zA, if_false, zH1]
  | cons y t ih =>
   intro j k s hdr hk hj hsl
   obtain ⟨j, rfl⟩ : ∃ i, j = i + 1 := ⟨j - 1, by simp at hj; omega⟩
   obtain ⟨h2, h3, h4⟩ := drop_cons hdr E0
   rw [getD_at h2] at h3
   have hj' : t.length < j := by simp at hj; omega
   simp only [spec_l02Change_L2, lt_cast, zD h2, inR_true h2, zE, getD_at h2, h3, zB, wrap_succ h2 (by omega), int_beq, text_eq]
   have hset : ∀ z : ByteArray, (s.set k z).take (k + 1) = s.take k ++ [z] := fun z => by
    rw [List.take_add_one, List.take_set_of_le (by omega), List.getElem?_set_self h2]; rfl
   have htk : s.take (k + 1) = s.take k ++ [y] := by rw [List.take_add_one, List.getElem?_eq_getElem h2, h3]; rfl
   by_cases k5 : d.1 = 5
   ·by_cases e : y = d.2.2.2.2.1
    ·have := ih j (k + 1) (s.set k d.2.2.2.2.2) (by rw [List.drop_set_of_lt (by omega)]; exact h4) (by simp; omega) hj' (by simpa using hsl)
     rw [List.length_set, hset] at this
     simp only [k5, e, zI, zB, List.map_cons, chKey, and_self, if_true] at this ⊢
     rw [this]; simp [chKey]
    ·have := ih j (k + 1) s h4 (by omega) hj' hsl
     rw [htk] at this
     simp only [k5, e, zI, zH, zB, zA, List.map_cons, chKey, and_false, if_false] at this ⊢
     rw [this]; simp [chKey]
   ·have := ih j (k + 1) s h4 (by omega) hj' hsl
    rw [htk] at this
    simp only [k5, zH, zA, List.map_cons, chKey, false_and, if_false] at this ⊢
    rw [this]; simp [chKey]
 have r1 : room (([] : List ByteArray).length + x.2.2.length) 16 = true := by simp only [room, zG, zX]; omega
 simp only [spec_l02Change, r1, zB, List.nil_append]
 refine (foldI_loop x.2.1 (fun _ c s => if chOut d c = true then s else s ++ [chCol d c]) (fun j k acc => spec_l02Change_L1 n j x.2.1 (x.2.1.length : Int) (k : Int) d.1 d.2.1 d.2.2.1 d.2.2.2.1 d.2.2.2.2.1 d.2.2.2.2.2 E0 [] [] x.1 acc x.2.2)
  (fun acc => some (x.1, (acc ++ (if d.1 = 3 then [d.2.2.1.getD 0 CZ] else []), x.2.2.map (chKey d)))) (fun k s => s.length ≤ k) (fun k hk s h => ?_) (fun j acc hacc => ?_) (fun j k acc hk hacc => ?_) x.2.1 n 0 [] rfl (by omega) (by omega) (Nat.le_refl 0)).trans ?_
 ·split
  ·omega
  ·rw [List.length_append]; simp only [zW, zX]; omega
 ·simp only [spec_l02Change_L1, lt_cast, zP, zH, zA]
  have := hL2 acc (by omega) x.2.2 n 0 x.2.2 rfl (by omega) (by omega) hkl
  rw [List.take_zero, List.nil_append] at this
  exact this
 ·have r : ∀ c : T_Col, room (acc.length + [c].length) 64 = true := fun c => by simp only [room, zG, zW, zX]; omega
  simp only [spec_l02Change_L1, lt_cast, zD hk, inR_true hk, zE, getD_at hk, zB, wrap_succ hk (by omega), int_beq, text_eq, chOut, chCol]
  generalize x.2.1[k] = c
  simp only [r, zB]
  by_cases k4 : d.1 = 4
  ·by_cases e : c.1 = d.2.2.2.2.1
   ·simp only [k4, e, zI, zB, Bool.and_self, if_true]
   ·simp only [k4, e, zI, zH, zB, zA, Bool.and_false, Bool.false_eq_true, if_false, show ¬ (4 : Int) = 5 by decide, false_and]
  ·by_cases k5 : d.1 = 5
   ·by_cases e : c.1 = d.2.2.2.2.1
    ·simp only [k5, e, show ¬ (5 : Int) = 4 by decide, zH, zI, zB, zA, Bool.false_and, Bool.false_eq_true, if_false, and_self, if_true]
    ·simp only [k5, e, show ¬ (5 : Int) = 4 by decide, zH, zI, zB, zA, Bool.false_and, Bool.false_eq_true, if_false, and_false]
   ·simp only [k4, k5, zH, zA, Bool.false_and, Bool.false_eq_true, if_false, false_and]
 ·rw [filter_map_fold]; rfl
def cTables (l : T_TableS) (d : T_Ddl) : T_TableS :=
 if d.1 = 1 then putTb (d.2.1, (d.2.2.1, d.2.2.2.1)) l else
 if d.1 = 2 then without l (tAt l d.2.1).toNat else l.set (tAt l d.2.1).toNat (cChange (l.getD (tAt l d.2.1).toNat noTable) d)
def cApply (l : T_TableS) (d : T_Ddl) : T_TableS × (Int × Unit) :=
 if cCatOk l = true ∧ cDdlOk d = true then (if cCode l d = 0 then (cTables l d, (0, ())) else ([], (cCode l d, ()))) else ([], (1, ()))
theorem spec_DdlApply_ok : EV fun n => ∀ (l : T_TableS) (d : T_Ddl), sm_TableS 1048576 l → sm_Ddl 1048576 d → spec_DdlApply n l d.1 d.2.1 d.2.2.1 d.2.2.2.1 d.2.2.2.2.1 d.2.2.2.2.2 = some (cApply l d) := (spec_CatOk_ok.and (spec_DdlOk_ok.and (spec_l02At_ok.and (spec_l02Copy_ok.and (spec_l02Table_ok.and (spec_l02Put_ok.and (spec_l02Fault_ok.and spec_l02Change_ok))))))).up fun n ⟨h1, h2, h3, h4, h5, h6, h7, h8⟩ l d hl hd => by
 have e3 := h3 l d.2.1 hl.1
 rw [show idx (fun t : T_Table => decide (t.1 = d.2.1)) l = tAt l d.2.1 from rfl] at e3
 simp only [spec_DdlApply, h1 l hl, h2 d hd, e3, h4 l hl, zC, cApply, int_beq, int_bne]
 cases hc : cCatOk l
 ·simp
 cases hk : cDdlOk d
 ·simp
 have hlen := (cat_facts hc).1
 simp only [zT, zA, and_self, if_true]
 have hbig := hl.1
 by_cases k1 : d.1 = 1
 ·have e5 := h5 (d.2.1, (d.2.2.1, d.2.2.2.1)) ⟨hd.1, hd.2.1, hd.2.2.1⟩
  have e6 := h6 l (d.2.1, (d.2.2.1, d.2.2.2.1)) hbig
  dsimp only at e5 e6
  simp only [k1, zI, zB, e5, e6, zC, cCode, cTables, if_true, bif_dec]
  by_cases c : 0 ≤ tAt l d.2.1
  ·simp only [if_pos c]; rfl
  ·simp only [if_neg c]
   by_cases h6' : l.length = 6
   ·rw [if_pos (by omega), if_pos h6']; rfl
   ·rw [if_neg (by omega), if_neg h6']; rfl
 simp only [k1, zH, zA, cCode, cTables, if_false]
 rcases tAt_cases l d.2.1 with c | ⟨i, ei, hi⟩
 ·simp only [zD c, zB, if_pos c]; rfl
 have z : ¬ ((i : Int) < 0) := by omega
 have e7 := h7 l[i] d (hl.2 _ (zL hi)) hk
 have e8 := h8 l[i] d (hl.2 _ (zL hi)) hk
 simp only [ei, zK z, zA, inR_true hi, zB, zE, getD_at hi, e7, e8, zC, if_neg z]
 by_cases cf : cFault l[i] d = 0
 ·simp only [cf, zI, zT, zA, if_true]
  by_cases k2 : d.1 = 2
  ·have w : IntKind.wrap .i64 ((i : Int) + 1) = ((i + 1 : Nat) : Int) := wrap_succ hi (by omega)
   have q1 : decide (0 ≤ ((0 : Nat) : Int) ∧ ((0 : Nat) : Int) ≤ (i : Int) ∧ (i : Int) ≤ (l.length : Int)) = true := zD ⟨by omega, by omega, by omega⟩
   have q2 : decide (0 ≤ ((i + 1 : Nat) : Int) ∧ ((i + 1 : Nat) : Int) ≤ ((l.length : Nat) : Int) ∧ ((l.length : Nat) : Int) ≤ (l.length : Int)) = true := zD ⟨by omega, by omega, by omega⟩
   have r1 : room (([] : T_TableS).length + ((l.drop 0).take (i - 0)).length) 64 = true := by simp only [room, zG, zX, List.length_take]; omega
   have t1 : (l.drop (i + 1)).take (l.length - (i + 1)) = l.drop (i + 1) := List.take_of_length_le (by simp)
   have r2 : room (([] ++ (l.drop 0).take (i - 0)).length + (l.drop (i + 1)).length) 64 = true := by simp only [room, zG, List.nil_append, List.length_take, List.length_drop]; omega
   simp only [k2, zI, zB, if_true, w, zE, Int.toNat_zero, q1, r1, q2, t1, r2]
   rw [List.nil_append, List.drop_zero, Nat.sub_zero]; rfl
  ·simp only [k2, zH, zA, if_false]
 ·simp only [cf, zH, zU, zB, if_false]
theorem ins_at {α : Type} {eb : Nat} {l : List α} {i : Nat} {r : α} (h : i ≤ l.length) (hr : room (l.length + 1) eb = true) : insF eb l (i : Int) [r] = some (l.take i ++ [r] ++ l.drop i) := by
 unfold insF
 rw [zD ⟨rfl, by omega, by omega⟩, hr]; rfl
theorem set_map {α : Type} {l : List α} {i : Nat} (hi : i < l.length) (f : α → α) (h2 : ∀ j (hj : j < l.length), j ≠ i → f l[j] = l[j]) : l.set i (f l[i]) = l.map f := by
 refine List.ext_getElem (by simp) fun j h1 h3 => ?_
 rw [List.getElem_set, List.getElem_map]
 split
 ·rename_i e; subst e; rfl
 ·rename_i e; exact (h2 j (by simpa using h1) (fun h => e h.symm)).symm
theorem col_unique {x : T_Table} (h : cTableOk x = true) : ∀ i j (hi : i < x.2.1.length) (hj : j < x.2.1.length), x.2.1[i].1 = x.2.1[j].1 → i = j := by
 intro i j hi hj e
 simp only [cTableOk, zJ] at h
 have a1 := allFrom_get h.1.2 hi
 have a2 := allFrom_get h.1.2 hj
 simp only [zJ, zG] at a1 a2
 have := a1.2
 rw [e, a2.2] at this
 omega
theorem runs_above {cs : T_ColS} : ∀ {ks : T_StringS} {last : Int}, (runs (keyStep cs) ks last).isSome = true → ∀ k ∈ ks, last < cColAt cs k
 | [], _, _, k, hk => by cases hk
 | y :: ks, last, h, k, hk => by
  simp only [runs] at h
  unfold keyStep at h
  split at h
  ·rename_i c
   rcases List.mem_cons.mp hk with e | e
   ·rw [e]; exact c.1
   ·have := runs_above (last := cColAt cs y) h k e
    exact Int.lt_trans c.1 this
  ·cases h
theorem runs_nodup {cs : T_ColS} : ∀ {ks : T_StringS} {last : Int}, (runs (keyStep cs) ks last).isSome = true → ks.Nodup
 | [], _, _ => List.Pairwise.nil
 | y :: ks, last, h => by
  simp only [runs] at h
  unfold keyStep at h
  split at h
  ·rename_i c
   refine List.pairwise_cons.mpr ⟨fun k hk e => ?_, runs_nodup (last := cColAt cs y) h⟩
   have := runs_above (last := cColAt cs y) h k hk
   rw [e] at this; exact Int.lt_irrefl _ this
  ·cases h
theorem key_unique {x : T_Table} (h : cTableOk x = true) : x.2.2.Nodup := by
 simp only [cTableOk, zJ] at h
 exact runs_nodup h.2
theorem colAt_cases (cs : T_ColS) (s : ByteArray) : cColAt cs s < 0 ∨ ∃ k : Nat, cColAt cs s = (k : Int) ∧ ∃ hk : k < cs.length, cs[k].1 = s := by
 by_cases c : 0 ≤ cColAt cs s
 ·obtain ⟨k, e⟩ := Int.eq_ofNat_of_zero_le c
  obtain ⟨hk, e2⟩ := idx_at (fun c : T_Col => decide (c.1 = s)) cs 0 k (by rw [zS]; exact e)
  exact .inr ⟨k, e, hk, by simpa using e2⟩
 ·exact .inl (by omega)
theorem ddlOne_ok : EV fun n => ∀ (c : T_Col) (d : T_Ddl), impl_DdlApply_1 n c.1 c.2.1 c.2.2.1 c.2.2.2.1 c.2.2.2.2.1 c.2.2.2.2.2.1 c.2.2.2.2.2.2 d = some (decide (c.1 = d.2.2.2.2.1)) := EV.true.up fun n _ c d => by
 simp only [impl_DdlApply_1, text_eq]
theorem ddlIdx_ok : EV fun n => ∀ (l : T_ColS) (d : T_Ddl), l.length ≤ 1048576 → slices_IndexFunc_impl_Col_impl_Col__impl_DdlApply_1 n l d = some (cColAt l d.2.2.2.2.1) := (ddlOne_ok.and (EV.gt 1048577)).up fun n ⟨h1, hn⟩ l d hl => by
 rw [slices_IndexFunc_impl_Col_impl_Col__impl_DdlApply_1]
 refine find_loop (fun c : T_Col => decide (c.1 = d.2.2.2.2.1)) l (fun j k => slices_IndexFunc_impl_Col_impl_Col__impl_DdlApply_1_L1 n j l d (l.length : Int) (k : Int)) (fun j => ?_) (fun j k hk => ?_) l n 0 rfl (by omega) (by omega)
 ·simp only [slices_IndexFunc_impl_Col_impl_Col__impl_DdlApply_1_L1, lt_cast, zP, zH, zA]
 ·simp only [slices_IndexFunc_impl_Col_impl_Col__impl_DdlApply_1_L1, lt_cast, zD hk, inR_true hk, zE, getD_at hk, zB, wrap_succ hk (by omega), h1, zC]
  exact bif_step' _ _
def colsBut (l : T_ColS) (s : ByteArray) : T_ColS := l.filter fun c => !decide (c.1 = s)
theorem idx_colsBut (s : ByteArray) : ∀ (l : T_ColS) (k : Nat), (idxFrom (fun c : T_Col => decide (c.1 = s)) l k = -1 ∧ colsBut l s = l) ∨ ∃ m : Nat, m < l.length ∧ idxFrom (fun c : T_Col => decide (c.1 = s)) l k = ((k + m : Nat) : Int) ∧ colsBut l s = l.take m ++ colsBut (l.drop (m + 1)) s
 | [], k => .inl ⟨rfl, rfl⟩
 | c :: l, k => by
  by_cases e : c.1 = s
  ·refine .inr ⟨0, by simp, by simp [idxFrom, e], by simp [colsBut, e]⟩
  ·rcases idx_colsBut s l (k + 1) with ⟨h1, h2⟩ | ⟨m, h1, h2, h3⟩
   ·refine .inl ⟨by simp [idxFrom, e, h1], ?_⟩
    simp only [colsBut, List.filter_cons, e, zH, zU, if_true] at h2 ⊢
    rw [h2]
   ·refine .inr ⟨m + 1, by simp; omega, ?_, ?_⟩
    ·simp only [idxFrom, e, zH, zA] at h2 ⊢
     first
      | (rw [if_neg (by simp), h2]; congr 1; omega)
      | (rw [h2]; congr 1; omega)
    ·simp only [colsBut, List.filter_cons, e, zH, zU, if_true, List.take_succ_cons, List.drop_succ_cons, List.cons_append] at h3 ⊢
     rw [h3]
theorem ddlDel_ok : EV fun n => ∀ (l : T_ColS) (d : T_Ddl), l.length ≤ 1048576 → slices_DeleteFunc_impl_Col_impl_Col_o__impl_DdlApply_1 n l d = some (colsBut l d.2.2.2.2.1) := (ddlOne_ok.and (ddlIdx_ok.and (EV.gt 1048578))).up fun n ⟨h1, h2, hn⟩ l d hl => by
 have loop : ∀ (t : T_ColS) (j k i : Nat) (cur : T_ColS), cur.drop k = t → k ≤ cur.length → i ≤ k → t.length < j → cur.length ≤ 1048576 →
   slices_DeleteFunc_impl_Col_impl_Col_o__impl_DdlApply_1_L1 n j d (i : Int) (k : Int) cur = some (cur.take i ++ colsBut t d.2.2.2.2.1) := by
  intro t
  induction t with
  | nil =>
   intro j k i cur hd hk hi hj hc
   obtain ⟨j, rfl⟩ : ∃ j', j = j' + 1 := ⟨j - 1, by omega⟩
   have : k = cur.length := by have := congrArg List.length hd; simp at this; omega
   subst this
   have q1 : decide (0 ≤ (i : Int) ∧ (i : Int) ≤ ((cur.length : Nat) : Int) ∧ ((cur.length : Nat) : Int) ≤ (cur.length : Int)) = true := zD ⟨by omega, by omega, by omega⟩
   have q2 : ∀ z : T_Col, decide (0 ≤ ((0 : Nat) : Int) ∧ ((0 : Nat) : Int) ≤ (i : Int) ∧ (i : Int) ≤ ((cur.take i ++ List.replicate (cur.length - i) z ++ cur.drop (i + (cur.length - i))).length : Int)) = true := fun z => zD ⟨by omega, by omega, by simp; omega⟩
   simp only [slices_DeleteFunc_impl_Col_impl_Col_o__impl_DdlApply_1_L1, lt_cast, zP, zH, zA, q1, zB, zE, q2]
   have : (cur.take i).length = i := by simp; omega
   simp only [colsBut, List.filter_nil, zH1, Nat.sub_zero]
   rw [List.append_assoc, List.take_append_of_le_length (by omega), List.take_of_length_le (by omega)]
  | cons y t ih =>
   intro j k i cur hd hk hi hj hc
   obtain ⟨j, rfl⟩ : ∃ j', j = j' + 1 := ⟨j - 1, by omega⟩
   obtain ⟨g2, g3, g4⟩ := drop_cons hd y
   have hx : cur[k] = y := by simpa [List.getD, g2] using g3
   have hik : i < cur.length := by omega
   simp only [slices_DeleteFunc_impl_Col_impl_Col_o__impl_DdlApply_1_L1, lt_cast, zD g2, inR_true g2, inR_true hik, zE, getD_at g2, hx, zB, wrap_succ g2 (by omega), wrap_succ hik (by omega), h1, zC]
   by_cases h : y.1 = d.2.2.2.2.1
   ·simp only [h, zI, zT, zA]
    rw [ih j (k + 1) i cur g4 (by omega) (by omega) (by simp at hj; omega) hc]
    simp [colsBut, h]
   ·simp only [h, zH, zU, zB]
    rw [show (y.1, (y.2.1, (y.2.2.1, (y.2.2.2.1, (y.2.2.2.2.1, (y.2.2.2.2.2.1, y.2.2.2.2.2.2)))))) = y from rfl]
    rw [ih j (k + 1) (i + 1) (cur.set i y) (by rw [List.drop_set_of_lt (by omega)]; exact g4) (by simp; omega) (by omega) (by simp at hj; omega) (by simpa using hc)]
    have e : (cur.set i y).take (i + 1) = cur.take i ++ [y] := by
     rw [List.take_add_one, List.take_set_of_le (by omega), List.getElem?_set_self hik]; rfl
    rw [e]
    simp [colsBut, h]
 rw [slices_DeleteFunc_impl_Col_impl_Col_o__impl_DdlApply_1, h2 l d hl]
 simp only [zC]
 rcases idx_colsBut d.2.2.2.2.1 l 0 with ⟨g1, g2⟩ | ⟨m, g1, g2, g3⟩
 ·have : cColAt l d.2.2.2.2.1 = -1 := g1
  rw [this, g2]; rfl
 ·have e : cColAt l d.2.2.2.2.1 = (m : Int) := by have := g2; rw [zS] at this; exact this
  have ne : (((m : Nat) : Int) == (-1 : Int)) = false := by simp
  rw [e, ne, zA, wrap_succ g1 (by omega), loop (l.drop (m + 1)) n (m + 1) m l rfl (by omega) (by omega) (by simp; omega) hl, g3]
theorem nodup_inj {l : List ByteArray} (h : l.Nodup) {i j : Nat} (hi : i < l.length) (hj : j < l.length) (e : l[i] = l[j]) : i = j := by
 have h' := List.pairwise_iff_getElem.mp h
 rcases zE1 i j with c | c
 ·exact absurd e (h' i j hi hj c)
 ·rcases zE1 j i with c2 | c2
  ·exact absurd e.symm (h' j i hj hi c2)
  ·omega
theorem cCode_zero {l : T_TableS} {d : T_Ddl} (h : cCode l d = 0) (k1 : ¬ d.1 = 1) : ∃ i : Nat, tAt l d.2.1 = (i : Int) ∧ ∃ hi : i < l.length, cFault l[i] d = 0 := by
 simp only [cCode, k1, if_false] at h
 rcases tAt_cases l d.2.1 with c | ⟨i, ei, hi⟩
 ·rw [if_pos c] at h; cases h
 ·have z : ¬ ((i : Int) < 0) := by omega
  rw [ei, if_neg z, zE, getD_at hi] at h
  exact ⟨i, ei, hi, h⟩
theorem change_out {x : T_Table} {d : T_Ddl} (k4 : d.1 = 4) : cChange x d = (x.1, (colsBut x.2.1 d.2.2.2.2.1, x.2.2)) := by
 simp only [cChange, k4, show ¬ (4 : Int) = 3 by decide, if_false, zH1, colsBut]
 have e1 : x.2.2.map (chKey d) = x.2.2 := by
  rw [show chKey d = id from funext fun k => by simp [chKey, k4]]; simp
 have e2 : ∀ l : T_ColS, l.map (chCol d) = l := fun l => by
  rw [show chCol d = id from funext fun k => by simp [chCol, k4]]; simp
 rw [e1, e2]
 congr 2
 refine List.filter_congr fun c _ => ?_
 simp [chOut, k4]
theorem change_add {x : T_Table} {d : T_Ddl} (k3 : d.1 = 3) : cChange x d = (x.1, (x.2.1 ++ [d.2.2.1.getD 0 CZ], x.2.2)) := by
 simp only [cChange, k3, if_true]
 have e1 : x.2.2.map (chKey d) = x.2.2 := by
  rw [show chKey d = id from funext fun k => by simp [chKey, k3]]; simp
 have e2 : ∀ l : T_ColS, l.map (chCol d) = l := fun l => by
  rw [show chCol d = id from funext fun k => by simp [chCol, k3]]; simp
 rw [e1, e2]
 congr 3
 exact List.filter_eq_self.mpr fun c _ => by simp [chOut, k3]
theorem change_name {x : T_Table} {d : T_Ddl} (k5 : d.1 = 5) : cChange x d = (x.1, (x.2.1.map (chCol d), x.2.2.map (chKey d))) := by
 simp only [cChange, k5, show ¬ (5 : Int) = 3 by decide, if_false, zH1]
 congr 3
 exact List.filter_eq_self.mpr fun c _ => by simp [chOut, k5]
theorem impl_DdlApply_ok : EV fun n => ∀ (l : T_TableS) (d : T_Ddl), sm_TableS 1048576 l → sm_Ddl 1048576 d → impl_DdlApply n l d.1 d.2.1 d.2.2.1 d.2.2.2.1 d.2.2.2.2.1 d.2.2.2.2.2 = some (cApply l d) := (impl_CatOk_ok.and (impl_DdlOk_ok.and (impl_ddlCode_ok.and (impl_copyCat_ok.and (impl_Cat_at_ok.and (impl_Ddl_made_ok.and (impl_ColAt_ok.and (ddlDel_ok.and (slices_IndexStr_ok.and (EV.gt 100)))))))))).up fun n ⟨h1, h2, h3, h4, h5, h6, h7, h8, h9, hn⟩ l d hl hd => by
 obtain ⟨m, rfl⟩ : ∃ m, n = m + 1 := ⟨n - 1, by omega⟩
 have e5 := h5 l d.2.1 hl.1
 rw [show idx (fun t : T_Table => decide (t.1 = d.2.1)) l = tAt l d.2.1 from rfl] at e5
 simp only [impl_DdlApply, h1 l hl, h2 d hd, zC, cApply, int_beq, int_bne]
 cases hc : cCatOk l
 ·simp
 cases hk : cDdlOk d
 ·simp
 have hlen := (cat_facts hc).1
 simp only [zT, zA, and_self, if_true, h3 l d hl hk, zC]
 by_cases hz : cCode l d = 0
 rotate_left
 ·simp only [hz, zH, zU, zB, if_false]
 simp only [hz, zI, zT, zA, if_true, h4 l hl, e5, zC]
 by_cases k1 : d.1 = 1
 ·simp only [k1, zI, zB, cTables, if_true]
  have hno : ∀ t ∈ l, t.1 ≠ d.2.1 := fun t ht e => by
   have := tAt_pos.mpr ⟨t, ht, e⟩
   simp only [cCode, k1, if_true, if_pos this] at hz
   cases hz
  have h6' := h6 d hd
  rw [k1] at h6'
  have hins : ∀ k, k ≤ l.length → insF 64 l (k : Int) [((d.2.1, (d.2.2.1, d.2.2.2.1)) : T_Table)] = some (l.take k ++ [(d.2.1, (d.2.2.1, d.2.2.2.1))] ++ l.drop k) := fun k hk => ins_at hk (by simp only [room, zG]; omega)
  have loop : ∀ (t : T_TableS) (j k : Nat), l.drop k = t → k ≤ l.length → t.length < j → impl_DdlApply_L1 (m + 1) j (k : Int) 1 d.2.1 d.2.2.1 d.2.2.2.1 d.2.2.2.2.1 d.2.2.2.2.2 [] l = some (l.take k ++ putTb (d.2.1, (d.2.2.1, d.2.2.2.1)) t, (0, ())) := by
   intro t
   induction t with
   | nil =>
    intro j k hdr hkl hj
    obtain ⟨j, rfl⟩ : ∃ i, j = i + 1 := ⟨j - 1, by simp at hj; omega⟩
    have : k = l.length := by
     rcases zE1 k l.length with h' | h'
     ·rw [zC1 h'] at hdr; cases hdr
     ·omega
    subst this
    simp only [impl_DdlApply_L1, lt_cast, zP, zH, zA, h6', zC, slices_Insert_impl_Table_impl_Table, hins _ (Nat.le_refl _)]
    simp [putTb]
   | cons y t ih =>
    intro j k hdr hkl hj
    obtain ⟨j, rfl⟩ : ∃ i, j = i + 1 := ⟨j - 1, by simp at hj; omega⟩
    obtain ⟨g2, g3, g4⟩ := drop_cons hdr noTable
    rw [getD_at g2] at g3
    have hy : y ∈ l := by rw [← g3]; exact zL g2
    have htk : l.take (k + 1) = l.take k ++ [y] := by rw [List.take_add_one, List.getElem?_eq_getElem g2, g3]; rfl
    simp only [impl_DdlApply_L1, lt_cast, zD g2, inR_true g2, zE, getD_at g2, g3, zB, wrap_succ g2 (by omega), h6', zC, slices_Insert_impl_Table_impl_Table, hins k hkl]
    cases c : Op.bytesLess y.1.toList d.2.1.toList
    ·have hl : lessT d.2.1 y.1 = true := lessT_tri (a := y.1) c (hno y hy)
     rw [zA, hdr]
     simp only [putTb]
     rw [if_pos hl]
     simp
    ·have hl : lessT d.2.1 y.1 = false := lessT_asymm (a := y.1) c
     rw [zB, ih j (k + 1) g4 (by omega) (by simp at hj; omega), htk]
     simp only [putTb]
     rw [if_neg (by rw [hl]; simp)]
     simp
  have := loop l (m + 1) 0 rfl (by omega) (by omega)
  rw [List.take_zero, List.nil_append] at this
  exact this
 obtain ⟨i, ei, hi, hf⟩ := cCode_zero hz k1
 have hx := hl.2 _ (zL hi)
 have hcl := hx.2.1.1
 have hkl := hx.2.2.1
 have htab := (cat_facts hc).2 _ (zL hi)
 simp only [k1, zH, zA, cTables, if_false, ei, zE, getD_at hi]
 by_cases k2 : d.1 = 2
 ·simp only [k2, zI, zB, if_true, slices_Delete_impl_Table_impl_Table, wrap_succ hi (by omega), del1 hi, zC]
 simp only [k2, zH, zA, if_false, inR_true hi, zB]
 by_cases k3 : d.1 = 3
 ·obtain ⟨c, hcs, _⟩ := ddlOk_3 hk k3
  have r1 : room (l[i].2.1.length + 1) 64 = true := by simp only [room, zG]; omega
  simp only [k3, zI, zB, hcs, List.length_singleton, inR0, Int.toNat_zero, List.getD_cons_zero, r1, Nat.beq_refl, change_add k3]
 by_cases k4 : d.1 = 4
 ·have e8 := h8 l[i].2.1 d hcl
  rw [show ((d.1, (d.2.1, (d.2.2.1, (d.2.2.2.1, (d.2.2.2.2.1, d.2.2.2.2.2))))) : T_Ddl) = d from rfl]
  simp only [k3, k4, show ¬ (4 : Int) = 3 by decide, zH, zA, zI, zB, e8, zC, Nat.beq_refl, change_out k4]
 have k5 : d.1 = 5 := by rcases ddlOk_kind hk with h | h | h | h | h <;> first | exact h | exact absurd h (by assumption)
 simp only [k5, show ¬ (5 : Int) = 3 by decide, show ¬ (5 : Int) = 4 by decide, zH, zA, zI, zB]
 have h7' : ∀ a ks s, impl_ColAt (m + 1) a l[i].2.1 ks s = some (cColAt l[i].2.1 s) := fun a ks s => h7 _ _ _ _ hcl
 simp only [h7', zC]
 have hcol : ¬ cColAt l[i].2.1 d.2.2.2.2.1 < 0 := fun h => by
  simp only [cFault, k5, show ¬ (5 : Int) = 3 by decide, show ¬ (5 : Int) = 4 by decide, if_false, if_true] at hf
  split at hf
  ·cases hf
  ·first
    | (cases hf; done)
    | (rw [if_pos h] at hf; cases hf)
 rcases colAt_cases l[i].2.1 d.2.2.2.2.1 with c | ⟨q, eq, hq, hqn⟩
 ·exact absurd c hcol
 simp only [eq, inR_true hq, zB, zE, getD_at hq]
 have hset : l[i].2.1.set q (d.2.2.2.2.2, l[i].2.1[q].2) = l[i].2.1.map (chCol d) := by
  have := set_map hq (chCol d) fun j hj hne => by
   simp only [chCol]
   rw [if_neg]
   rintro ⟨_, e⟩
   exact hne (col_unique htab j q hj hq (e.trans hqn.symm))
  rw [← this]
  congr 1
  simp only [chCol]
  rw [if_pos ⟨k5, hqn⟩]
 have hgs : ∀ x : T_Table, (l.set i x).getD i noTable = x := fun x => by
  rw [getD_at (show i < (l.set i x).length by simpa using hi), List.getElem_set_self]
 rw [hset]
 have hgs' : ∀ x : T_Table, (l.set i x).getD i (E0, ([], [])) = x := hgs
 simp only [hgs', h9 _ _ hkl, zC]
 by_cases ck : 0 ≤ idx (fun x => decide (d.2.2.2.2.1 = x)) l[i].2.2
 ·obtain ⟨p, ep⟩ := Int.eq_ofNat_of_zero_le ck
  obtain ⟨hp, ep2⟩ := idx_at (fun x => decide (d.2.2.2.2.1 = x)) l[i].2.2 0 p (by rw [zS]; exact ep)
  rw [zG] at ep2
  have hks : l[i].2.2.set p d.2.2.2.2.2 = l[i].2.2.map (chKey d) := by
   have hnd := key_unique htab
   have := set_map hp (chKey d) fun j hj hne => by
    simp only [chKey]
    rw [if_neg]
    rintro ⟨_, e⟩
    exact hne (nodup_inj hnd hj hp (e.trans ep2))
   rw [← this]
   congr 1
   simp only [chKey]
   rw [if_pos ⟨k5, ep2.symm⟩]
  have z : (0 : Int) ≤ (p : Int) := by omega
  simp only [ep, zD z, zB, inR_true hp, zE, hks, List.set_set, change_name k5]
 ·have hno : ∀ y ∈ l[i].2.2, y ≠ d.2.2.2.2.1 := fun y hy e => by
   have := (idx_neg (fun x => decide (d.2.2.2.2.1 = x)) l[i].2.2).mp ck y hy
   simp [e] at this
  have hks : l[i].2.2.map (chKey d) = l[i].2.2 := by
   rw [List.map_congr_left (g := id) fun y hy => by simp [chKey, hno y hy]]; simp
  simp only [zK ck, zA, change_name k5, hks]
theorem putTb_mem (t y : T_Table) : ∀ l : T_TableS, y ∈ putTb t l → y = t ∨ y ∈ l
 | [], h => by simpa [putTb] using h
 | x :: l, h => by
  simp only [putTb] at h
  split at h
  ·rcases List.mem_cons.mp h with e | e
   ·exact .inl e
   ·exact .inr e
  ·rcases List.mem_cons.mp h with e | e
   ·exact .inr (by rw [e]; exact zM ..)
   ·exact (putTb_mem t y l e).imp id (zF _)
theorem putTb_len (t : T_Table) : ∀ l : T_TableS, (putTb t l).length = l.length + 1
 | [] => rfl
 | x :: l => by
  simp only [putTb]
  split
  ·rfl
  ·simp [putTb_len t l]
theorem change_sm {x : T_Table} {d : T_Ddl} (hx : sm_Table 1048576 x) (ht : cTableOk x = true) (hd : sm_Ddl 1048576 d) (hk : cDdlOk d = true) : sm_Table 1048576 (cChange x d) := by
 obtain ⟨l1, l2⟩ := keys_len ht
 refine ⟨hx.1, ⟨?_, fun c hc => ?_⟩, ⟨by simp only [cChange, List.length_map]; omega, fun k hk' => ?_⟩⟩
 ·have h1 := List.length_filter_le (fun c => !chOut d c) x.2.1
  simp only [cChange, List.length_append, List.length_map]
  split <;> simp <;> omega
 ·simp only [cChange] at hc
  rcases zY.mp hc with hc | hc
  ·obtain ⟨c0, hc0, rfl⟩ := List.mem_map.mp hc
   have hs := hx.2.1.2 c0 (List.mem_filter.mp hc0).1
   unfold chCol
   split
   ·exact ⟨hd.2.2.2.2, hs.2⟩
   ·exact hs
  ·split at hc
   ·rename_i k3
    obtain ⟨c1, hcs, _⟩ := ddlOk_3 hk k3
    have := hd.2.1.2
    rw [hcs] at hc this
    simp only [List.getD_cons_zero, zF1] at hc
    rw [hc]; exact this c1 (by simp)
   ·cases hc
 ·obtain ⟨k0, hk0, rfl⟩ := List.mem_map.mp hk'
  have hs := hx.2.2.2 k0 hk0
  unfold chKey
  split
  ·exact hd.2.2.2.2
  ·exact hs
theorem cApply_sm {l : T_TableS} {d : T_Ddl} (hl : sm_TableS 1048576 l) (hd : sm_Ddl 1048576 d) : sm_TableS 1048576 (cApply l d).1 := by
 unfold cApply
 split
 ·rename_i h
  obtain ⟨hc, hk⟩ := h
  have h6 := (cat_facts hc).1
  split
  ·rename_i hz
   simp only [cTables]
   split
   ·refine ⟨by rw [putTb_len]; omega, fun t ht => ?_⟩
    rcases putTb_mem _ _ _ ht with e | e
    ·rw [e]; exact ⟨hd.1, hd.2.1, hd.2.2.1⟩
    ·exact hl.2 t e
   ·rename_i k1
    obtain ⟨i, ei, hi, _⟩ := cCode_zero hz k1
    split
    ·exact ⟨Nat.le_trans (without_len _ _) hl.1, fun t ht => hl.2 t (without_mem ht)⟩
    ·rw [ei, zE, getD_at hi]
     refine ⟨by rw [List.length_set]; exact hl.1, fun t ht => ?_⟩
     rcases List.mem_or_eq_of_mem_set ht with e | e
     ·exact hl.2 t e
     ·rw [e]; exact change_sm (hl.2 _ (zL hi)) ((cat_facts hc).2 _ (zL hi)) hd hk
  ·exact ⟨Nat.zero_le _, fun t ht => by cases ht⟩
 ·exact ⟨Nat.zero_le _, fun t ht => by cases ht⟩
def rowCh (x : T_Table) (d : T_Ddl) (r : T_Row) : T_Row :=
 if d.1 = 4 then without r (cColAt x.2.1 d.2.2.2.2.1).toNat else if d.1 = 3 then r ++ [(d.2.2.1.getD 0 CZ).2.2.2.2] else r
def cRowsDdl (x : T_Table) (l : T_RowS) (d : T_Ddl) : T_RowS × (Int × Unit) :=
 if cRowsOk x l = true ∧ cDdlOk d = true ∧ d.2.1 = x.1 ∧ d.1 ≠ 1 then
  (if cFault x d = 0 then (if d.1 = 2 then [] else l.map (rowCh x d), (0, ())) else ([], (cFault x d, ()))) else ([], (1, ()))
theorem tAt_one {x : T_Table} {s : ByteArray} (h : s = x.1) : tAt [x] s = 0 := by
 subst h
 simp [tAt, idx, idxFrom]
theorem cCode_one {x : T_Table} {d : T_Ddl} (h : d.2.1 = x.1) (k1 : ¬ d.1 = 1) : cCode [x] d = cFault x d := by
 simp only [cCode, k1, if_false, tAt_one h]
 rfl
theorem catOk_one {x : T_Table} (h : cTableOk x = true) : cCatOk [x] = true := by
 simp [cCatOk, allFrom, cCatStep, h]
theorem out_col {x : T_Table} {d : T_Ddl} (k4 : d.1 = 4) (hf : cFault x d = 0) : ∃ p : Nat, cColAt x.2.1 d.2.2.2.2.1 = (p : Int) ∧ p < x.2.1.length := by
 rcases colAt_cases x.2.1 d.2.2.2.2.1 with c | ⟨p, ep, hp, _⟩
 ·simp only [cFault, k4, show ¬ (4 : Int) = 3 by decide, if_false, if_true, if_pos c] at hf
  cases hf
 ·exact ⟨p, ep, hp⟩
theorem foldI_all {α : Type} : ∀ (t : List α) (k : Nat) (acc : List α), foldI (fun _ x (s : List α) => s ++ [x]) k t acc = acc ++ t
 | [], k, acc => by simp [foldI]
 | x :: t, k, acc => by
  simp only [foldI]
  rw [foldI_all t]; simp
theorem foldI_congr {α S : Type} {f g : Nat → α → S → S} (h : ∀ k x s, f k x s = g k x s) : ∀ (t : List α) (k : Nat) (s : S), foldI f k t s = foldI g k t s
 | [], _, _ => rfl
 | x :: t, k, s => by
  simp only [foldI]
  rw [h, foldI_congr h t]
theorem foldI_nop {α S : Type} : ∀ (t : List α) (k : Nat) (s : S), foldI (fun _ _ (s : S) => s) k t s = s
 | [], _, _ => rfl
 | x :: t, k, s => foldI_nop t (k + 1) s
theorem spec_RowsDdl_ok : EV fun n => ∀ (x : T_Table) (l : T_RowS) (d : T_Ddl), sm_Table 1048576 x → sm_RowS 1048576 l → sm_Ddl 1048576 d → spec_RowsDdl n x.1 x.2.1 x.2.2 l d.1 d.2.1 d.2.2.1 d.2.2.2.1 d.2.2.2.2.1 d.2.2.2.2.2 = some (cRowsDdl x l d) := (spec_RowsOk_ok.and (spec_DdlOk_ok.and (spec_DdlApply_ok.and (spec_ColAt_ok.and (EV.gt 1048577))))).up fun n ⟨h1, h2, h3, h4, hn⟩ x l d hx hl hd => by
 have e3 := h3 [x] d ⟨by simp, fun t ht => by rw [zF1.mp ht]; exact hx⟩ hd
 simp only [spec_RowsDdl, h1 x l hx hl.1, h2 d hd, h4 _ _ _ _ hx.2.1.1, zC, text_eq, int_beq, int_bne, cRowsDdl]
 rw [show [(x.1, (x.2.1, x.2.2))] = [x] from rfl, e3]
 cases hr : cRowsOk x l
 ·simp
 cases hk : cDdlOk d
 ·simp
 simp only [zT, zA]
 by_cases hn1 : d.2.1 = x.1
 rotate_left
 ·simp [hn1]
 by_cases k1 : d.1 = 1
 ·simp [hn1, k1]
 have ht := (rows_in hr).1
 have hlen := (rows_in hr).2.1
 simp only [hn1, k1, zI, zH, zT, zA, zC, ne_eq, not_false_eq_true, and_self, if_true, cApply, catOk_one ht, hk, cCode_one hn1 k1]
 by_cases hf : cFault x d = 0
 rotate_left
 ·simp only [hf, zH, zU, zB, if_false]
 simp only [hf, zI, zT, zA, if_true]
 have hL2 : ∀ (k0 : Int → List (List (Int × (Int × ByteArray))) → Int → Int → Int → ByteArray → List (ByteArray × (Int × (Bool × (Bool × (Int × (Int × ByteArray)))))) → List ByteArray → ByteArray → ByteArray → List (List (Int × (Int × ByteArray))) → Option ((List (List (Int × (Int × ByteArray)))) × (Int × Unit)))
   (r : T_Row) (k : Nat) (acc : T_RowS), r.length = x.2.1.length → k < 60 → acc.length ≤ 60 →
   spec_RowsDdl_L2 n k0 n (cColAt x.2.1 d.2.2.2.2.1) l (l.length : Int) (k : Int) r (r.length : Int) ((0 : Nat) : Int) d.1 x.1 d.2.2.1 d.2.2.2.1 d.2.2.2.2.1 d.2.2.2.2.2 acc [] =
    k0 (cColAt x.2.1 d.2.2.2.2.1) l (l.length : Int) ((k + 1 : Nat) : Int) d.1 x.1 d.2.2.1 d.2.2.2.1 d.2.2.2.2.1 d.2.2.2.2.2 (if d.1 = 2 then acc else acc ++ [rowCh x d r]) := by
  intro k0 r k acc hrl hk60 hacc
  have hcl := hx.2.1.1
  refine (foldI_loop r (fun i v (s : T_Row) => if d.1 = 4 ∧ (i : Int) = cColAt x.2.1 d.2.2.2.2.1 then s else s ++ [v]) (fun j i s => spec_RowsDdl_L2 n k0 j (cColAt x.2.1 d.2.2.2.2.1) l (l.length : Int) (k : Int) r (r.length : Int) (i : Int) d.1 x.1 d.2.2.1 d.2.2.2.1 d.2.2.2.2.1 d.2.2.2.2.2 acc s)
   (fun s => k0 (cColAt x.2.1 d.2.2.2.2.1) l (l.length : Int) ((k + 1 : Nat) : Int) d.1 x.1 d.2.2.1 d.2.2.2.1 d.2.2.2.2.1 d.2.2.2.2.2 (if d.1 = 2 then acc else acc ++ [s ++ (if d.1 = 3 then [(d.2.2.1.getD 0 CZ).2.2.2.2] else [])]))
   (fun i s => s.length ≤ i) (fun i hi s hs => ?_) (fun j s hs => ?_) (fun j i s hi hs => ?_) r n 0 [] rfl (by omega) (by omega) (Nat.le_refl 0)).trans ?_
  ·split
   ·omega
   ·rw [List.length_append]; simp only [zW, zX]; omega
  ·have w : IntKind.wrap .i64 ((k : Int) + 1) = ((k + 1 : Nat) : Int) := by rw [wrap64] <;> omega
   have r2 : ∀ z : T_Row, room (acc.length + [z].length) 24 = true := fun z => by simp only [room, zG, zW, zX]; omega
   simp only [spec_RowsDdl_L2, lt_cast, zP, zH, zA, int_beq, int_bne, r2, zB, w]
   by_cases k3 : d.1 = 3
   ·obtain ⟨c, hcs, _⟩ := ddlOk_3 hk k3
    have r1 : room (s.length + 1) 32 = true := by simp only [room, zG]; omega
    simp only [k3, zI, zB, hcs, List.length_singleton, inR0, Int.toNat_zero, List.getD_cons_zero, r1, show ¬ (3 : Int) = 2 by decide, zH, zU, if_false, if_true]
   ·by_cases k2 : d.1 = 2
    ·simp only [k2, show ¬ (2 : Int) = 3 by decide, zH, zI, zA, zT, if_true]
    ·simp only [k3, k2, zH, zA, zU, zB, if_false, zH1]
  ·have r1 : ∀ z : T_Val, room (s.length + [z].length) 32 = true := fun z => by simp only [room, zG, zW, zX]; omega
   simp only [spec_RowsDdl_L2, lt_cast, zD hi, inR_true hi, zE, getD_at hi, zB, wrap_succ hi (by omega), int_bne]
   rw [show [(r[i].1, (r[i].2.1, r[i].2.2))] = [r[i]] from rfl, r1]
   by_cases k4 : d.1 = 4
   ·by_cases e : (i : Int) = cColAt x.2.1 d.2.2.2.2.1
    ·simp only [k4, e, zI, zT, zA, and_self, if_true]
    ·simp only [k4, e, zI, zH, zT, zU, zA, zB, and_false, if_false]
   ·simp only [k4, zH, zU, zB, false_and, if_false]
  ·congr 1
   by_cases k2 : d.1 = 2
   ·rw [if_pos k2, if_pos k2]
   rw [if_neg k2, if_neg k2]
   congr 2
   unfold rowCh
   by_cases k4 : d.1 = 4
   ·obtain ⟨p, ep, hp⟩ := out_col k4 hf
    rw [if_pos k4, if_neg (by rw [k4]; decide), zH1, ep, zE]
    rw [foldI_congr (g := fun i v (s : T_Row) => if i = p then s else s ++ [v]) (fun i v s => by
     simp only [k4, true_and]
     by_cases e : i = p
     ·rw [if_pos (by omega), if_pos e]
     ·rw [if_neg (by omega), if_neg e])]
    rw [foldI_skip p r 0 [] (Nat.zero_le _)]; rfl
   ·rw [if_neg k4, foldI_congr (g := fun _ v (s : T_Row) => s ++ [v]) (fun i v s => by simp only [k4, false_and, if_false]), foldI_all, List.nil_append]
    by_cases k3 : d.1 = 3
    ·rw [if_pos k3, if_pos k3]
    ·rw [if_neg k3, if_neg k3, zH1]
 refine (foldI_loop l (fun _ r (s : T_RowS) => if d.1 = 2 then s else s ++ [rowCh x d r]) (fun j k s => spec_RowsDdl_L1 n j (cColAt x.2.1 d.2.2.2.2.1) l (l.length : Int) (k : Int) d.1 x.1 d.2.2.1 d.2.2.2.1 d.2.2.2.2.1 d.2.2.2.2.2 s) (fun s => some (s, (0, ())))
  (fun k s => s.length ≤ k) (fun k hk' s hs => ?_) (fun j s hs => ?_) (fun j k s hk' hs => ?_) l n 0 [] rfl (by omega) (by omega) (Nat.le_refl 0)).trans ?_
 ·split
  ·omega
  ·rw [List.length_append]; simp only [zW, zX]; omega
 ·simp only [spec_RowsDdl_L1, lt_cast, zP, zH, zA]
 ·have := hL2 (fun y58 y59 y60 y61 y62 y63 y64 y65 y66 y67 y68 => spec_RowsDdl_L1 n j y58 y59 y60 y61 y62 y63 y64 y65 y66 y67 y68) l[k] k s (rows_lens hr _ (zL hk')) (by omega) (by omega)
  simp only [spec_RowsDdl_L1, lt_cast, zD hk', inR_true hk', zE, getD_at hk', zB]
  exact this
 ·congr 2
  by_cases k2 : d.1 = 2
  ·rw [foldI_congr (g := fun _ _ (s : T_RowS) => s) (fun k r s => by rw [if_pos k2]), foldI_nop, if_pos k2]
  ·rw [foldI_congr (g := fun _ r (s : T_RowS) => if false = true then s else s ++ [rowCh x d r]) (fun k r s => by rw [if_neg k2]; simp), filter_map_fold (fun _ => false) (rowCh x d), if_neg k2]
   rw [List.nil_append]
   congr 1
   exact List.filter_eq_self.mpr fun _ _ => rfl
theorem impl_RowsDdl_ok : EV fun n => ∀ (x : T_Table) (l : T_RowS) (d : T_Ddl), sm_Table 1048576 x → sm_RowS 1048576 l → sm_Ddl 1048576 d → impl_RowsDdl n x.1 x.2.1 x.2.2 l d.1 d.2.1 d.2.2.1 d.2.2.2.1 d.2.2.2.2.1 d.2.2.2.2.2 = some (cRowsDdl x l d) := (impl_RowsOk_ok.and (impl_DdlOk_ok.and (impl_ddlCode_ok.and (impl_ColAt_ok.and (impl_copyRows_ok.and (EV.gt 1048577)))))).up fun n ⟨h1, h2, h3, h4, h5, hn⟩ x l d hx hl hd => by
 obtain ⟨m, rfl⟩ : ∃ m, n = m + 1 := ⟨n - 1, by omega⟩
 have h4' : ∀ s, impl_ColAt (m + 1) x.1 x.2.1 x.2.2 s = some (cColAt x.2.1 s) := fun s => h4 _ _ _ _ hx.2.1.1
 simp only [impl_RowsDdl, h1 x l hx hl.1, h2 d hd, h4', zC, text_eq, int_beq, int_bne, cRowsDdl]
 cases hr : cRowsOk x l
 ·simp
 cases hk : cDdlOk d
 ·simp
 have e3 := h3 [x] d ⟨by simp, fun t ht => by rw [zF1.mp ht]; exact hx⟩ hk
 rw [show [(x.1, (x.2.1, x.2.2))] = [x] from rfl, e3]
 simp only [zT, zA]
 by_cases hn1 : d.2.1 = x.1
 rotate_left
 ·simp [hn1]
 by_cases k1 : d.1 = 1
 ·simp [hn1, k1]
 have hlen := (rows_in hr).2.1
 simp only [hn1, k1, zI, zH, zT, zA, zC, ne_eq, not_false_eq_true, and_self, if_true, cCode_one hn1 k1]
 by_cases hf : cFault x d = 0
 rotate_left
 ·simp only [hf, zH, zU, zB, if_false]
 simp only [hf, zI, zT, zA, if_true, h5 l hl, zC]
 by_cases k2 : d.1 = 2
 ·simp only [k2, zI, zB, if_true]
 simp only [k2, zH, zA, if_false]
 by_cases k3 : d.1 = 3
 ·obtain ⟨c, hcs, _⟩ := ddlOk_3 hk k3
  simp only [k3, zI, zB]
  have loop : ∀ (t : T_RowS) (j k : Nat) (s : T_RowS), s.drop k = t → k ≤ s.length → t.length < j → s.length = l.length → (∀ r ∈ t, r.length ≤ 1048576) →
    impl_RowsDdl_L1 (m + 1) j (l.length : Int) (k : Int) 3 x.1 d.2.2.1 d.2.2.2.1 d.2.2.2.2.1 d.2.2.2.2.2 s = some (s.take k ++ t.map (rowCh x d), (0, ())) := by
   intro t
   induction t with
   | nil =>
    intro j k s hdr hkl hj hsl _
    obtain ⟨j, rfl⟩ : ∃ i, j = i + 1 := ⟨j - 1, by simp at hj; omega⟩
    have : k = s.length := by
     rcases zE1 k s.length with h' | h'
     ·rw [zC1 h'] at hdr; cases hdr
     ·omega
    subst this
    simp only [impl_RowsDdl_L1, hsl, lt_cast, zP, zH, zA]
    rw [← hsl, List.take_length]; simp
   | cons r t ih =>
    intro j k s hdr hkl hj hsl hrl
    obtain ⟨j, rfl⟩ : ∃ i, j = i + 1 := ⟨j - 1, by simp at hj; omega⟩
    obtain ⟨g2, g3, g4⟩ := drop_cons hdr []
    have hk2 : k < l.length := by omega
    have hrr := hrl r (zM ..)
    have r1 : room (r.length + 1) 32 = true := by simp only [room, zG]; omega
    simp only [impl_RowsDdl_L1, lt_cast, zD hk2, inR_true g2, zE, g3, zB, hcs, List.length_singleton, inR0, Int.toNat_zero, List.getD_cons_zero, r1, Nat.beq_refl, wrap_succ hk2 (by omega)]
    have := ih j (k + 1) (s.set k (r ++ [c.2.2.2.2])) (by rw [List.drop_set_of_lt (by omega)]; exact g4) (by simp; omega) (by simp at hj; omega) (by simpa using hsl) (fun r' hr' => hrl r' (zF _ hr'))
    rw [hcs] at this
    rw [this]
    have hset : (s.set k (r ++ [c.2.2.2.2])).take (k + 1) = s.take k ++ [r ++ [c.2.2.2.2]] := by
     rw [List.take_add_one, List.take_set_of_le (by omega), List.getElem?_set_self g2]; rfl
    rw [hset]
    simp [rowCh, k3, hcs]
  have := loop l (m + 1) 0 l rfl (by omega) (by omega) rfl fun r hr' => by
   have := rows_lens hr r hr'
   have := hx.2.1.1
   omega
  rw [List.take_zero, List.nil_append] at this
  exact this
 by_cases k4 : d.1 = 4
 ·obtain ⟨p, ep, hp⟩ := out_col k4 hf
  simp only [k4, show ¬ (4 : Int) = 3 by decide, zH, zA, zI, zB, ep]
  have hcl := hx.2.1.1
  have loop : ∀ (t : T_RowS) (j k : Nat) (s : T_RowS), s.drop k = t → k ≤ s.length → t.length < j → s.length = l.length → (∀ r ∈ t, p < r.length) →
    impl_RowsDdl_L2 (m + 1) j (p : Int) (l.length : Int) (k : Int) s = some (s.take k ++ t.map (rowCh x d), (0, ())) := by
   intro t
   induction t with
   | nil =>
    intro j k s hdr hkl hj hsl _
    obtain ⟨j, rfl⟩ : ∃ i, j = i + 1 := ⟨j - 1, by simp at hj; omega⟩
    have : k = s.length := by
     rcases zE1 k s.length with h' | h'
     ·rw [zC1 h'] at hdr; cases hdr
     ·omega
    subst this
    simp only [impl_RowsDdl_L2, hsl, lt_cast, zP, zH, zA]
    rw [← hsl, List.take_length]; simp
   | cons r t ih =>
    intro j k s hdr hkl hj hsl hrl
    obtain ⟨j, rfl⟩ : ∃ i, j = i + 1 := ⟨j - 1, by simp at hj; omega⟩
    obtain ⟨g2, g3, g4⟩ := drop_cons hdr []
    have hk2 : k < l.length := by omega
    have hrr := hrl r (zM ..)
    have wp : IntKind.wrap .i64 ((p : Int) + 1) = ((p + 1 : Nat) : Int) := by rw [wrap64] <;> omega
    simp only [impl_RowsDdl_L2, lt_cast, zD hk2, inR_true g2, zE, g3, zB, slices_Delete_impl_Val_impl_Val, wp, del1 hrr, zC, Nat.beq_refl, wrap_succ hk2 (by omega)]
    rw [ih j (k + 1) (s.set k (without r p)) (by rw [List.drop_set_of_lt (by omega)]; exact g4) (by simp; omega) (by simp at hj; omega) (by simpa using hsl) (fun r' hr' => hrl r' (zF _ hr'))]
    have hset : (s.set k (without r p)).take (k + 1) = s.take k ++ [without r p] := by
     rw [List.take_add_one, List.take_set_of_le (by omega), List.getElem?_set_self g2]; rfl
    rw [hset]
    simp [rowCh, k4, ep]
  have := loop l (m + 1) 0 l rfl (by omega) (by omega) rfl fun r hr' => by
   rw [rows_lens hr r hr']; exact hp
  rw [List.take_zero, List.nil_append] at this
  exact this
 ·simp only [k3, k4, zH, zA]
  rw [show rowCh x d = id from funext fun r => by simp [rowCh, k3, k4], List.map_id]
theorem cRowsDdl_sm {x : T_Table} {l : T_RowS} {d : T_Ddl} (hx : sm_Table 1048576 x) (hl : sm_RowS 1048576 l) (hd : sm_Ddl 1048576 d) : sm_RowS 1048576 (cRowsDdl x l d).1 := by
 unfold cRowsDdl
 split
 ·rename_i h
  obtain ⟨hr, hk, _, _⟩ := h
  split
  ·dsimp only
   split
   ·exact smr_nil
   ·refine ⟨by rw [List.length_map]; exact hl.1, fun r hr' => ?_⟩
    obtain ⟨r0, h0, rfl⟩ := List.mem_map.mp hr'
    have hs := hl.2 r0 h0
    have h8 := (table_facts (rows_in hr).1).2.2.1
    have hrl := rows_lens hr r0 h0
    unfold rowCh
    split
    ·exact ⟨Nat.le_trans (without_len _ _) hs.1, fun v hv => hs.2 v (without_mem hv)⟩
    ·split
     ·rename_i k3
      obtain ⟨c, hcs, _⟩ := ddlOk_3 hk k3
      refine ⟨by rw [List.length_append]; simp only [zW, zX]; omega, fun v hv => ?_⟩
      rcases zY.mp hv with hv | hv
      ·exact hs.2 v hv
      ·rw [hcs] at hv
       simp only [List.getD_cons_zero, zF1] at hv
       have := hd.2.1.2 c (by rw [hcs]; simp)
       rw [hv]
       exact this.2
     ·exact hs
  ·exact smr_nil
 ·exact smr_nil
def noDb : T_Db := ([], [])
def cRows (x : T_Table) (l : T_RowS) (s : T_Stmt) : T_RowS × (Int × Unit) :=
 if s.1 = 1 then cRowPut x l s.2.2.2.1 else if s.1 = 2 then cRowSet x l s.2.2.1 s.2.2.2.1 else if s.1 = 3 then cRowOut x l s.2.2.1 else if s.1 = 5 then cRowsDdl x l s.2.2.2.2 else ([], (0, ()))
def rowsFor (d : T_Db) (s : T_Stmt) (t : T_Table) : T_RowS :=
 if 0 ≤ tAt d.1 t.1 then (if t.1 = s.2.1 then (cRowsDdl (d.1.getD (tAt d.1 t.1).toNat noTable) (d.2.getD (tAt d.1 t.1).toNat []) s.2.2.2.2).1 else d.2.getD (tAt d.1 t.1).toNat []) else []
def cChDb (d : T_Db) (s : T_Stmt) : T_Db × (Int × Unit) :=
 if (cApply d.1 s.2.2.2.2).2.1 = 0 then (((cApply d.1 s.2.2.2.2).1, (cApply d.1 s.2.2.2.2).1.map (rowsFor d s)), (0, ())) else (noDb, (10 + (cApply d.1 s.2.2.2.2).2.1, ()))
def cExec0 (d : T_Db) (s : T_Stmt) : T_Db × (Int × Unit) :=
 if tAt d.1 s.2.1 < 0 ∧ (s.1 ≠ 5 ∨ s.2.2.2.2.1 ≠ 1) then (noDb, (4, ())) else
 if s.1 = 5 then cChDb d s else
 if (cRows (d.1.getD (tAt d.1 s.2.1).toNat noTable) (d.2.getD (tAt d.1 s.2.1).toNat []) s).2.1 = 0 then ((d.1, d.2.set (tAt d.1 s.2.1).toNat (cRows (d.1.getD (tAt d.1 s.2.1).toNat noTable) (d.2.getD (tAt d.1 s.2.1).toNat []) s).1), (0, ()))
 else (noDb, (10 + (cRows (d.1.getD (tAt d.1 s.2.1).toNat noTable) (d.2.getD (tAt d.1 s.2.1).toNat []) s).2.1, ()))
def cExec (d : T_Db) (s : T_Stmt) : T_Db × (Int × Unit) := if cDbOk d = true ∧ cStmtOk s = true then cExec0 d s else (noDb, (1, ()))
theorem stmt_5 {s : T_Stmt} (h : cStmtOk s = true) (k5 : s.1 = 5) : cDdlOk s.2.2.2.2 = true ∧ s.2.1 = s.2.2.2.2.2.1 := by
 simp only [cStmtOk, k5, if_true, zJ, zG] at h
 exact ⟨h.1.1.1, h.1.1.2⟩
def smallC (c : Int) : Prop := 0 ≤ c ∧ c ≤ 100
theorem code_fault (x : T_Table) (d : T_Ddl) : smallC (cFault x d) := by
 unfold cFault smallC
 repeat' split
 all_goals omega
theorem code_code (l : T_TableS) (d : T_Ddl) : smallC (cCode l d) := by
 unfold cCode
 split
 ·split
  ·exact ⟨by omega, by omega⟩
  ·split
   ·exact ⟨by omega, by omega⟩
   ·exact ⟨by omega, by omega⟩
 ·split
  ·exact ⟨by omega, by omega⟩
  ·exact code_fault _ _
theorem code_apply (l : T_TableS) (d : T_Ddl) : smallC (cApply l d).2.1 := by
 unfold cApply
 split
 ·split
  ·exact ⟨by simp, by simp⟩
  ·exact code_code _ _
 ·exact ⟨by simp, by simp⟩
theorem code_rows (x : T_Table) (l : T_RowS) (s : T_Stmt) : smallC (cRows x l s).2.1 := by
 unfold cRows
 split
 ·unfold cRowPut
  repeat' split
  all_goals exact ⟨by simp, by simp⟩
 split
 ·unfold cRowSet
  repeat' split
  all_goals exact ⟨by simp, by simp⟩
 split
 ·unfold cRowOut
  repeat' split
  all_goals exact ⟨by simp, by simp⟩
 split
 ·unfold cRowsDdl
  split
  ·split
   ·exact ⟨by simp, by simp⟩
   ·exact code_fault _ _
  ·exact ⟨by simp, by simp⟩
 ·exact ⟨by simp, by simp⟩
theorem wrap10 {c : Int} (h : smallC c) : IntKind.wrap .i64 ((10 : Int) + c) = 10 + c := by
 obtain ⟨h1, h2⟩ := h
 rw [wrap64] <;> omega
theorem cRows_sm {x : T_Table} {l : T_RowS} {s : T_Stmt} (hx : sm_Table 1048576 x) (hl : sm_RowS 1048576 l) (hs : sm_Stmt 1048576 s) : sm_RowS 1048576 (cRows x l s).1 := by
 unfold cRows
 split
 ·obtain ⟨n, h⟩ := same_RowPut
  obtain ⟨n2, h2⟩ := spec_RowPut_ok
  obtain ⟨r, e1, _, e3⟩ := h (max n n2) (Nat.le_max_left ..) x l s.2.2.2.1 hx hl hs.2.2.1
  rw [h2 (max n n2) (Nat.le_max_right ..) x l s.2.2.2.1 hx hl hs.2.2.1.1] at e1
  obtain rfl := oI e1; exact e3
 split
 ·obtain ⟨n, h⟩ := same_RowSet
  obtain ⟨n2, h2⟩ := spec_RowSet_ok
  obtain ⟨r, e1, _, e3⟩ := h (max n n2) (Nat.le_max_left ..) x l s.2.2.1 s.2.2.2.1 hx hl hs.2.1 hs.2.2.1
  rw [h2 (max n n2) (Nat.le_max_right ..) x l s.2.2.1 s.2.2.2.1 hx hl hs.2.2.1.1] at e1
  obtain rfl := oI e1; exact e3
 split
 ·obtain ⟨n, h⟩ := same_RowOut
  obtain ⟨n2, h2⟩ := spec_RowOut_ok
  obtain ⟨r, e1, _, e3⟩ := h (max n n2) (Nat.le_max_left ..) x l s.2.2.1 hx hl hs.2.1
  rw [h2 (max n n2) (Nat.le_max_right ..) x l s.2.2.1 hx hl] at e1
  obtain rfl := oI e1; exact e3
 split
 ·exact cRowsDdl_sm hx hl hs.2.2.2
 ·exact smr_nil
theorem spec_l04Rows_ok : EV fun n => ∀ (x : T_Table) (l : T_RowS) (s : T_Stmt), sm_Table 1048576 x → sm_RowS 1048576 l → sm_Stmt 1048576 s → spec_l04Rows n x.1 x.2.1 x.2.2 l s.1 s.2.1 s.2.2.1 s.2.2.2.1 s.2.2.2.2.1 s.2.2.2.2.2.1 s.2.2.2.2.2.2.1 s.2.2.2.2.2.2.2.1 s.2.2.2.2.2.2.2.2.1 s.2.2.2.2.2.2.2.2.2 = some (cRows x l s) := (spec_RowPut_ok.and (spec_RowSet_ok.and (spec_RowOut_ok.and spec_RowsDdl_ok))).up fun n ⟨h1, h2, h3, h4⟩ x l s hx hl hs => by
 simp only [spec_l04Rows, h1 x l _ hx hl hs.2.2.1.1, h2 x l _ _ hx hl hs.2.2.1.1, h3 x l _ hx hl, h4 x l s.2.2.2.2 hx hl hs.2.2.2, zC, int_beq, cRows, bif_dec]
 split
 ·rfl
 split
 ·rfl
 split
 ·rfl
 split <;> rfl
theorem spec_l04Copy_ok : EV fun n => ∀ d : T_Db, sm_Db 1048576 d → spec_l04Copy n d.1 d.2 = some d := (spec_l02Copy_ok.and (spec_l03Copy_ok.and (EV.gt 1048577))).up fun n ⟨h1, h2, hn⟩ d hs => by
 have hl := hs.2.1
 simp only [spec_l04Copy, h1 d.1 hs.1, zC]
 refine (foldI_loop d.2 (fun _ x (s : T_RowsS) => s ++ [x]) (fun j k acc => spec_l04Copy_L1 n j d.2 (d.2.length : Int) (k : Int) [] [] d.1 acc) (fun s => some (d.1, s)) (fun k s => s.length ≤ k) (fun k hk s h => ?_) (fun j acc _ => ?_) (fun j k acc hk ha => ?_) d.2 n 0 [] rfl (by omega) (by omega) (Nat.le_refl 0)).trans ?_
 ·rw [List.length_append]; simp only [zW, zX]; omega
 ·simp only [spec_l04Copy_L1, lt_cast, zP, zH, zA]
 ·have e := h2 d.2[k] (hs.2.2 _ (zL hk))
  have r3 : ∀ x : T_Rows, room (acc.length + [x].length) 24 = true := fun x => by simp only [room, zG, zW, zX]; omega
  simp only [spec_l04Copy_L1, lt_cast, zD hk, inR_true hk, zE, getD_at hk, zB, wrap_succ hk (by omega), e, zC, r3]
 ·rw [foldI_all]; rfl
theorem impl_copyDb_ok : EV fun n => ∀ d : T_Db, sm_Db 1048576 d → impl_copyDb n d.1 d.2 = some d := (impl_copyCat_ok.and (impl_copyRows_ok.and (EV.gt 1048577))).up fun n ⟨h1, h2, hn⟩ d hs => by
 have hl := hs.2.1
 simp only [impl_copyDb, h1 d.1 hs.1, zC]
 refine (foldI_loop d.2 (fun _ x (s : T_RowsS) => s ++ [x]) (fun j k acc => impl_copyDb_L1 n j d.2 (d.2.length : Int) (k : Int) [] [] d.1 acc) (fun s => some (d.1, s)) (fun k s => s.length ≤ k) (fun k hk s h => ?_) (fun j acc _ => ?_) (fun j k acc hk ha => ?_) d.2 n 0 [] rfl (by omega) (by omega) (Nat.le_refl 0)).trans ?_
 ·rw [List.length_append]; simp only [zW, zX]; omega
 ·simp only [impl_copyDb_L1, lt_cast, zP, zH, zA]
 ·have e := h2 d.2[k] (hs.2.2 _ (zL hk))
  have r3 : ∀ x : T_Rows, room (acc.length + [x].length) 24 = true := fun x => by simp only [room, zG, zW, zX]; omega
  simp only [impl_copyDb_L1, lt_cast, zD hk, inR_true hk, zE, getD_at hk, zB, wrap_succ hk (by omega), e, zC, r3]
 ·rw [foldI_all]; rfl
theorem rowsFor_at {d : T_Db} (hd : cDbOk d = true) (s : T_Stmt) {t : T_Table} {i : Nat} (hi : i < d.1.length) (e : t.1 = d.1[i].1) : rowsFor d s t = if d.1[i].1 = s.2.1 then (cRowsDdl d.1[i] (d.2[i]'(by have := (dbOk_len hd).1; omega)) s.2.2.2.2).1 else d.2[i]'(by have := (dbOk_len hd).1; omega) := by
 obtain ⟨hc, hl, _⟩ := db_facts hd
 have hi2 : i < d.2.length := by omega
 unfold rowsFor
 rw [e, tAt_at hc hi, if_pos (by omega)]
 simp only [zE, getD_at hi, getD_at hi2]
theorem spec_l04Change_ok : EV fun n => ∀ (d : T_Db) (s : T_Stmt), sm_Db 1048576 d → sm_Stmt 1048576 s → cDbOk d = true → s.1 = 5 → spec_l04Change n d.1 d.2 s.1 s.2.1 s.2.2.1 s.2.2.2.1 s.2.2.2.2.1 s.2.2.2.2.2.1 s.2.2.2.2.2.2.1 s.2.2.2.2.2.2.2.1 s.2.2.2.2.2.2.2.2.1 s.2.2.2.2.2.2.2.2.2 = some (cChDb d s) := (spec_DdlApply_ok.and (spec_l02At_ok.and (spec_l04Rows_ok.and (spec_l03Copy_ok.and (EV.gt 1048577))))).up fun n ⟨h1, h2, h3, h4, hn⟩ d s hd hs ok k5 => by
 obtain ⟨hc, hl, _⟩ := db_facts ok
 have hsm := cApply_sm hd.1 hs.2.2.2
 simp only [spec_l04Change, h1 d.1 s.2.2.2.2 hd.1 hs.2.2.2, zC, int_bne, cChDb, wrap10 (code_apply d.1 s.2.2.2.2)]
 by_cases hz : (cApply d.1 s.2.2.2.2).2.1 = 0
 rotate_left
 ·simp only [hz, zH, zU, zB, if_false]; rfl
 simp only [hz, zI, zT, zA, if_true]
 generalize (cApply d.1 s.2.2.2.2).1 = c at hsm
 have hcl := hsm.1
 refine (foldI_loop c (fun _ t (q : T_RowsS) => if false = true then q else q ++ [rowsFor d s t]) (fun j k acc => spec_l04Change_L1 n j c (c.length : Int) (k : Int) d.1 d.2 s.1 s.2.1 s.2.2.1 s.2.2.2.1 s.2.2.2.2.1 s.2.2.2.2.2.1 s.2.2.2.2.2.2.1 s.2.2.2.2.2.2.2.1 s.2.2.2.2.2.2.2.2.1 s.2.2.2.2.2.2.2.2.2 [] [] c acc) (fun q => some ((c, q), (0, ())))
  (fun k q => q.length ≤ k) (fun k hk q h => ?_) (fun j acc _ => ?_) (fun j k acc hk ha => ?_) c n 0 [] rfl (by omega) (by omega) (Nat.le_refl 0)).trans ?_
 ·simp only [Bool.false_eq_true, if_false, List.length_append, zW, zX]; omega
 ·simp only [spec_l04Change_L1, lt_cast, zP, zH, zA]
 ·have e2 := h2 d.1 c[k].1 hd.1.1
  rw [show idx (fun t : T_Table => decide (t.1 = c[k].1)) d.1 = tAt d.1 c[k].1 from rfl] at e2
  have r3 : ∀ x : T_Rows, room (acc.length + [x].length) 24 = true := fun x => by simp only [room, zG, zW, zX]; omega
  simp only [spec_l04Change_L1, lt_cast, zD hk, inR_true hk, zE, getD_at hk, zB, wrap_succ hk (by omega), e2, zC, text_eq, Bool.false_eq_true, if_false, rowsFor]
  rcases tAt_cases d.1 c[k].1 with cn | ⟨i, ei, hi⟩
  ·have z : ¬ (0 ≤ tAt d.1 c[k].1) := by omega
   simp only [zK z, zA, r3, zB, if_neg z]
  ·have z : (0 : Int) ≤ (i : Int) := by omega
   have hi2 : i < d.2.length := by omega
   have e3 := h3 d.1[i] d.2[i] s (hd.1.2 _ (zL hi)) (hd.2.2 _ (zL hi2)) hs
   have e4 := h4 d.2[i] (hd.2.2 _ (zL hi2))
   have e5 : cRows d.1[i] d.2[i] s = cRowsDdl d.1[i] d.2[i] s.2.2.2.2 := by simp [cRows, k5]
   simp only [ei, zD z, zB, inR_true hi, inR_true hi2, zE, getD_at hi, getD_at hi2, e3, e4, e5, zC, r3, if_pos z, bif_dec]
   split <;> rfl
 ·rw [filter_map_fold (fun _ => false) (rowsFor d s), List.nil_append]
  rw [show c.filter (fun _ => !false) = c from List.filter_eq_self.mpr fun _ _ => rfl]
theorem spec_Exec_ok : EV fun n => ∀ (d : T_Db) (s : T_Stmt), sm_Db 1048576 d → sm_Stmt 1048576 s → spec_Exec n d.1 d.2 s.1 s.2.1 s.2.2.1 s.2.2.2.1 s.2.2.2.2.1 s.2.2.2.2.2.1 s.2.2.2.2.2.2.1 s.2.2.2.2.2.2.2.1 s.2.2.2.2.2.2.2.2.1 s.2.2.2.2.2.2.2.2.2 = some (cExec d s) := (spec_DbOk_ok.and (spec_StmtOk_ok.and (spec_l02At_ok.and (spec_l04Change_ok.and (spec_l04Rows_ok.and spec_l04Copy_ok))))).up fun n ⟨h1, h2, h3, h4, h5, h6⟩ d s hd hs => by
 have e3 := h3 d.1 s.2.1 hd.1.1
 rw [show idx (fun t : T_Table => decide (t.1 = s.2.1)) d.1 = tAt d.1 s.2.1 from rfl] at e3
 simp only [spec_Exec, h1 d hd, h2 s hs, e3, h6 d hd, zC, cExec, int_beq, int_bne]
 cases ok : cDbOk d
 ·simp; rfl
 cases sk : cStmtOk s
 ·simp; rfl
 obtain ⟨hc, hl, _⟩ := db_facts ok
 simp only [zT, zA, and_self, if_true, cExec0]
 by_cases k5 : s.1 = 5
 ·have e4 := h4 d s hd hs ok k5
  simp only [k5] at e4
  simp only [k5, zI, zT, zB, zA, e4, zC, ne_eq, not_true_eq_false, false_or, if_true]
  by_cases c : tAt d.1 s.2.1 < 0
  ·by_cases k1 : s.2.2.2.2.1 = 1
   ·simp only [zD c, k1, zI, zB, zT, zA, not_true_eq_false, and_false, if_false]
   ·simp only [zD c, k1, zH, zB, zU, not_false_eq_true, and_true, if_pos c]; rfl
  ·simp only [zK c, zA]
   rw [if_neg (fun h => c h.1)]
 ·simp only [k5, zH, zU, zB, zA, ne_eq, not_false_eq_true, true_or, and_true, if_false]
  rcases tAt_cases d.1 s.2.1 with cn | ⟨i, ei, hi⟩
  ·simp only [zD cn, zB, if_pos cn]; rfl
  ·have z : ¬ ((i : Int) < 0) := by omega
   have hi2 : i < d.2.length := by omega
   have e5 := h5 d.1[i] d.2[i] s (hd.1.2 _ (zL hi)) (hd.2.2 _ (zL hi2)) hs
   simp only [ei, zK z, zA, inR_true hi, inR_true hi2, zB, zE, getD_at hi, getD_at hi2, e5, zC, if_neg z, wrap10 (code_rows _ _ _)]
   by_cases hz : (cRows d.1[i] d.2[i] s).2.1 = 0
   ·simp only [hz, zI, zT, zA, if_true]
   ·simp only [hz, zH, zU, zB, if_false]; rfl
theorem putTb_split (x : T_Table) : ∀ l : T_TableS, (∀ t ∈ l, t.1 ≠ x.1) → ∃ p, p ≤ l.length ∧ tAt (putTb x l) x.1 = (p : Int) ∧ putTb x l = l.take p ++ [x] ++ l.drop p
 | [], _ => ⟨0, by simp, by simp [putTb, tAt, idx, idxFrom], by simp [putTb]⟩
 | y :: l, h => by
  simp only [putTb]
  split
  ·exact ⟨0, by simp, by simp [tAt, idx, idxFrom], by simp⟩
  ·obtain ⟨p, h1, h2, h3⟩ := putTb_split x l fun t ht => h t (zF _ ht)
   refine ⟨p + 1, by simp; omega, ?_, by rw [h3]; simp⟩
   have hy : decide (y.1 = x.1) = false := zK (h y (zM ..))
   have e : tAt (y :: putTb x l) x.1 = idxFrom (fun t : T_Table => decide (t.1 = x.1)) (putTb x l) 1 := idx_cons_ne (p := fun t : T_Table => decide (t.1 = x.1)) hy
   rw [e]
   rcases idx_shift (fun t : T_Table => decide (t.1 = x.1)) (putTb x l) 1 with ⟨_, g⟩ | ⟨m, _, g2, g3⟩
   ·have h2' : idxFrom (fun t : T_Table => decide (t.1 = x.1)) (putTb x l) 0 = (p : Int) := h2
    rw [g] at h2'; omega
   ·have h2' : idxFrom (fun t : T_Table => decide (t.1 = x.1)) (putTb x l) 0 = (p : Int) := h2
    rw [g2] at h2'
    rw [g3]; omega
theorem rows_map {d : T_Db} (hd : cDbOk d = true) (s : T_Stmt) (hn : tAt d.1 s.2.1 < 0) : d.1.map (rowsFor d s) = d.2 := by
 obtain ⟨hc, hl, _⟩ := db_facts hd
 refine List.ext_getElem (by simp [hl]) fun j h1 h2 => ?_
 have hj : j < d.1.length := by simpa using h1
 rw [List.getElem_map, rowsFor_at hd s hj rfl, if_neg]
 intro e
 have := tAt_pos.mpr ⟨d.1[j], zL hj, e⟩
 omega
theorem rows_other {d : T_Db} (hd : cDbOk d = true) (s : T_Stmt) {i : Nat} (ei : tAt d.1 s.2.1 = (i : Int)) {j : Nat} (hj : j < d.1.length) (hne : j ≠ i) : rowsFor d s d.1[j] = d.2[j]'(by have := (dbOk_len hd).1; omega) := by
 obtain ⟨hc, hl, _⟩ := db_facts hd
 rw [rowsFor_at hd s hj rfl, if_neg]
 intro e
 have := tAt_at hc hj
 rw [e, ei] at this
 omega
theorem rows_out {d : T_Db} (hd : cDbOk d = true) (s : T_Stmt) {i : Nat} (ei : tAt d.1 s.2.1 = (i : Int)) : (without d.1 i).map (rowsFor d s) = without d.2 i := by
 obtain ⟨hc, hl, _⟩ := db_facts hd
 have h1 : (d.1.take i).map (rowsFor d s) = d.2.take i := by
  refine List.ext_getElem (by simp [hl]) fun j h1 h2 => ?_
  simp only [List.length_map, List.length_take] at h1
  rw [List.getElem_map, List.getElem_take, List.getElem_take]
  exact rows_other hd s ei (by omega) (by omega)
 have h2 : (d.1.drop (i + 1)).map (rowsFor d s) = d.2.drop (i + 1) := by
  refine List.ext_getElem (by simp [hl]) fun j h1 h2 => ?_
  simp only [List.length_map, List.length_drop] at h1
  rw [List.getElem_map, List.getElem_drop, List.getElem_drop]
  exact rows_other hd s ei (by omega) (by omega)
 simp only [without, List.map_append, h1, h2]
theorem rows_set {d : T_Db} (hd : cDbOk d = true) (s : T_Stmt) {i : Nat} (ei : tAt d.1 s.2.1 = (i : Int)) (hi : i < d.1.length) {t : T_Table} (ht : t.1 = d.1[i].1) :
  (d.1.set i t).map (rowsFor d s) = d.2.set i (cRowsDdl d.1[i] (d.2[i]'(by have := (dbOk_len hd).1; omega)) s.2.2.2.2).1 := by
 obtain ⟨hc, hl, _⟩ := db_facts hd
 have hni : d.1[i].1 = s.2.1 := by
  obtain ⟨h, e⟩ := idx_at (fun t : T_Table => decide (t.1 = s.2.1)) d.1 0 i (by rw [zS]; exact ei)
  rwa [zG] at e
 refine List.ext_getElem (by simp [hl]) fun j h1 h2 => ?_
 have hj : j < d.1.length := by simpa using h1
 rw [List.getElem_map, List.getElem_set, List.getElem_set]
 split
 ·rename_i e; subst e
  rw [rowsFor_at hd s hi ht, if_pos hni]
 ·rename_i e
  exact rows_other hd s ei hj fun h => e h.symm
theorem impl_changed_ok : EV fun n => ∀ (d : T_Db) (s : T_Stmt), sm_Db 1048576 d → sm_Stmt 1048576 s → cDbOk d = true → cStmtOk s = true → s.1 = 5 → impl_changed n d.1 d.2 s.2.2.2.2.1 s.2.2.2.2.2.1 s.2.2.2.2.2.2.1 s.2.2.2.2.2.2.2.1 s.2.2.2.2.2.2.2.2.1 s.2.2.2.2.2.2.2.2.2 =
  some (if (cApply d.1 s.2.2.2.2).2.1 = 0 then cChDb d s else (noDb, ((cApply d.1 s.2.2.2.2).2.1, ()))) := (impl_DdlApply_ok.and (impl_copyDb_ok.and (impl_Cat_at_ok.and (impl_RowsDdl_ok.and (EV.gt 100))))).up fun n ⟨h1, h2, h3, h4, hn⟩ d s hd hs ok sk k5 => by
 obtain ⟨m, rfl⟩ : ∃ m, n = m + 1 := ⟨n - 1, by omega⟩
 obtain ⟨hc, hl, hrow⟩ := db_facts ok
 obtain ⟨dk, htb⟩ := stmt_5 sk k5
 have hl6 := (dbOk_len ok).2
 have hsm := cApply_sm hd.1 hs.2.2.2
 have e3 := fun l hl' => h3 l s.2.2.2.2.2.1 hl'
 simp only [show ∀ l : T_TableS, idx (fun t : T_Table => decide (t.1 = s.2.2.2.2.2.1)) l = tAt l s.2.1 from fun l => by rw [htb]; rfl] at e3
 simp only [impl_changed, h1 d.1 s.2.2.2.2 hd.1 hs.2.2.2, zC, int_bne, int_beq, h2 d hd, e3 d.1 hd.1.1, e3 _ hsm.1]
 by_cases hz : (cApply d.1 s.2.2.2.2).2.1 = 0
 rotate_left
 ·simp only [hz, zH, zU, zB, if_false]; rfl
 have hcode : cCode d.1 s.2.2.2.2 = 0 := by
  simp only [cApply, hc, dk, and_self, if_true] at hz
  by_cases h : cCode d.1 s.2.2.2.2 = 0
  ·exact h
  ·rw [if_neg h] at hz; exact absurd hz h
 have hcat : (cApply d.1 s.2.2.2.2).1 = cTables d.1 s.2.2.2.2 := by simp [cApply, hc, dk, hcode]
 simp only [hz, zI, zT, zA, if_true, cChDb, hcat]
 by_cases k1 : s.2.2.2.2.1 = 1
 ·have hno : ¬ 0 ≤ tAt d.1 s.2.1 := fun h => by
   simp only [cCode, k1, if_true] at hcode
   rw [htb] at h
   rw [if_pos h] at hcode; cases hcode
  have hno' : ∀ t ∈ d.1, t.1 ≠ s.2.2.2.2.2.1 := fun t ht e => hno (tAt_pos.mpr ⟨t, ht, e.trans htb.symm⟩)
  obtain ⟨p, hp, ep, es⟩ := putTb_split (s.2.2.2.2.2.1, (s.2.2.2.2.2.2.1, s.2.2.2.2.2.2.2.1)) d.1 hno'
  have ep' : tAt (cTables d.1 s.2.2.2.2) s.2.1 = (p : Int) := by rw [htb]; simp only [cTables, k1, if_true]; exact ep
  have hins : insF 24 d.2 (p : Int) [([] : T_Rows)] = some (d.2.take p ++ [[]] ++ d.2.drop p) := ins_at (by omega) (by simp only [room, zG]; omega)
  simp only [k1, zI, zB, ep', slices_Insert_impl_Rows_impl_Rows, hins, zC]
  congr 3
  simp only [cTables, k1, if_true]
  rw [es]
  have hm := rows_map ok s (by omega)
  simp only [List.map_append, List.map_cons, List.map_nil, List.map_take, List.map_drop, hm]
  congr 2
  simp only [rowsFor]
  rw [if_neg (by rw [← htb]; exact hno)]
 obtain ⟨i, ei, hi, hf⟩ := cCode_zero hcode k1
 rw [← htb] at ei
 have hi2 : i < d.2.length := by omega
 simp only [k1, zH, zA, ei]
 by_cases k2 : s.2.2.2.2.1 = 2
 ·simp only [k2, zI, zB, slices_Delete_impl_Rows_impl_Rows, wrap_succ hi (by omega), del1 hi2, zC]
  congr 3
  simp only [cTables, k2, show ¬ (2 : Int) = 1 by decide, if_false, if_true]
  rw [← htb, ei, zE, rows_out ok s ei]
 ·have e4 := h4 d.1[i] d.2[i] s.2.2.2.2 (hd.1.2 _ (zL hi)) (hd.2.2 _ (zL hi2)) hs.2.2.2
  simp only [k2, zH, zA, inR_true hi, inR_true hi2, zB, zE, getD_at hi, getD_at hi2, e4, zC]
  congr 3
  simp only [cTables, k1, k2, if_false]
  rw [← htb, ei, zE, getD_at hi, rows_set ok s ei hi (t := cChange d.1[i] s.2.2.2.2) rfl]
theorem impl_exec_ok : EV fun n => ∀ (d : T_Db) (s : T_Stmt), sm_Db 1048576 d → sm_Stmt 1048576 s → cDbOk d = true → cStmtOk s = true → impl_exec n d.1 d.2 s.1 s.2.1 s.2.2.1 s.2.2.2.1 s.2.2.2.2.1 s.2.2.2.2.2.1 s.2.2.2.2.2.2.1 s.2.2.2.2.2.2.2.1 s.2.2.2.2.2.2.2.2.1 s.2.2.2.2.2.2.2.2.2 = some (cExec0 d s) := (impl_Cat_at_ok.and (impl_changed_ok.and (impl_RowPut_ok.and (impl_RowSet_ok.and (impl_RowOut_ok.and impl_copyDb_ok))))).up fun n ⟨h1, h2, h3, h4, h5, h6⟩ d s hd hs ok sk => by
 have e1 := h1 d.1 s.2.1 hd.1.1
 rw [show idx (fun t : T_Table => decide (t.1 = s.2.1)) d.1 = tAt d.1 s.2.1 from rfl] at e1
 obtain ⟨hc, hl, _⟩ := db_facts ok
 simp only [impl_exec, e1, h6 d hd, zC, int_beq, int_bne, cExec0]
 by_cases k5 : s.1 = 5
 ·have e2 := h2 d s hd hs ok sk k5
  have key : ∀ (β : Type) (f : T_Db × (Int × Unit) → Option β), (some (if (cApply d.1 s.2.2.2.2).2.1 = 0 then cChDb d s else (noDb, ((cApply d.1 s.2.2.2.2).2.1, ())))).bind f = f (if (cApply d.1 s.2.2.2.2).2.1 = 0 then cChDb d s else (noDb, ((cApply d.1 s.2.2.2.2).2.1, ()))) := fun _ _ => rfl
  simp only [k5, zI, zT, zB, zA, e2, key, ne_eq, not_true_eq_false, false_or, if_true]
  have fin : (bif !decide ((if (cApply d.1 s.2.2.2.2).2.1 = 0 then cChDb d s else (noDb, ((cApply d.1 s.2.2.2.2).2.1, ()))).2.1 = 0) then
    some ((([] : T_TableS), ([] : T_RowsS)), (IntKind.wrap .i64 ((10 : Int) + (if (cApply d.1 s.2.2.2.2).2.1 = 0 then cChDb d s else (noDb, ((cApply d.1 s.2.2.2.2).2.1, ()))).2.1), ()))
    else some (((if (cApply d.1 s.2.2.2.2).2.1 = 0 then cChDb d s else (noDb, ((cApply d.1 s.2.2.2.2).2.1, ()))).1.1, (if (cApply d.1 s.2.2.2.2).2.1 = 0 then cChDb d s else (noDb, ((cApply d.1 s.2.2.2.2).2.1, ()))).1.2), (0, ()))) = some (cChDb d s) := by
   by_cases hz : (cApply d.1 s.2.2.2.2).2.1 = 0
   ·have e : (cChDb d s).2.1 = 0 := by simp [cChDb, hz]
    have e' : cChDb d s = ((cChDb d s).1, (0, ())) := by rw [cChDb, if_pos hz]
    simp only [if_pos hz, e, zI, zT, zA]
    rw [e']
   ·simp only [if_neg hz, hz, zH, zU, zB, wrap10 (code_apply d.1 s.2.2.2.2), cChDb, if_false]
    rfl
  by_cases c : tAt d.1 s.2.1 < 0
  ·by_cases k1 : s.2.2.2.2.1 = 1
   ·simp only [zD c, k1, zI, zB, zT, zA, not_true_eq_false, and_false, if_false]
    exact fin
   ·simp only [zD c, k1, zH, zB, zU, not_false_eq_true, and_true, if_pos c]; rfl
  ·simp only [zK c, zA, c, false_and, if_false]
   exact fin
 ·simp only [k5, zH, zU, zB, zA, ne_eq, not_false_eq_true, true_or, and_true, if_false]
  rcases tAt_cases d.1 s.2.1 with cn | ⟨i, ei, hi⟩
  ·simp only [zD cn, zB, if_pos cn]; rfl
  ·have z : ¬ ((i : Int) < 0) := by omega
   have hi2 : i < d.2.length := by omega
   have hx := hd.1.2 _ (zL hi)
   have hr := hd.2.2 _ (zL hi2)
   simp only [ei, zK z, zA, inR_true hi, inR_true hi2, zB, zE, getD_at hi, getD_at hi2, if_neg z]
   have w := wrap10 (code_rows d.1[i] d.2[i] s)
   by_cases k1 : s.1 = 1
   ·have e : cRows d.1[i] d.2[i] s = cRowPut d.1[i] d.2[i] s.2.2.2.1 := by simp [cRows, k1]
    rw [e] at w
    simp only [k1, zI, zB, h3 d.1[i] d.2[i] _ hx hr hs.2.2.1.1, zC, w, e]
    by_cases hz : (cRowPut d.1[i] d.2[i] s.2.2.2.1).2.1 = 0
    ·simp only [hz, zI, zT, zA, if_true]
    ·simp only [hz, zH, zU, zB, if_false]; rfl
   by_cases k2 : s.1 = 2
   ·have e : cRows d.1[i] d.2[i] s = cRowSet d.1[i] d.2[i] s.2.2.1 s.2.2.2.1 := by simp [cRows, k2]
    rw [e] at w
    simp only [k2, show ¬ (2 : Int) = 1 by decide, zH, zA, zI, zB, h4 d.1[i] d.2[i] _ _ hx hr hs.2.1.1 hs.2.2.1.1, zC, w, e]
    by_cases hz : (cRowSet d.1[i] d.2[i] s.2.2.1 s.2.2.2.1).2.1 = 0
    ·simp only [hz, zI, zT, zA, if_true]
    ·simp only [hz, zH, zU, zB, if_false]; rfl
   by_cases k3 : s.1 = 3
   ·have e : cRows d.1[i] d.2[i] s = cRowOut d.1[i] d.2[i] s.2.2.1 := by simp [cRows, k3]
    rw [e] at w
    simp only [k3, show ¬ (3 : Int) = 1 by decide, show ¬ (3 : Int) = 2 by decide, zH, zA, zI, zB, h5 d.1[i] d.2[i] _ hx hr, zC, w, e]
    by_cases hz : (cRowOut d.1[i] d.2[i] s.2.2.1).2.1 = 0
    ·simp only [hz, zI, zT, zA, if_true]
    ·simp only [hz, zH, zU, zB, if_false]; rfl
   ·have e : cRows d.1[i] d.2[i] s = ([], (0, ())) := by simp [cRows, k1, k2, k3, k5]
    simp only [k1, k2, k3, zH, zA, zI, zT, e, if_true]
theorem impl_Exec_ok : EV fun n => ∀ (d : T_Db) (s : T_Stmt), sm_Db 1048576 d → sm_Stmt 1048576 s → impl_Exec n d.1 d.2 s.1 s.2.1 s.2.2.1 s.2.2.2.1 s.2.2.2.2.1 s.2.2.2.2.2.1 s.2.2.2.2.2.2.1 s.2.2.2.2.2.2.2.1 s.2.2.2.2.2.2.2.2.1 s.2.2.2.2.2.2.2.2.2 = some (cExec d s) := (impl_DbOk_ok.and (impl_StmtOk_ok.and impl_exec_ok)).up fun n ⟨h1, h2, h3⟩ d s hd hs => by
 simp only [impl_Exec, h1 d hd, h2 s hs, zC, cExec]
 cases ok : cDbOk d
 ·simp; rfl
 cases sk : cStmtOk s
 ·simp; rfl
 simp only [zT, zA, and_self, if_true, h3 d s hd hs ok sk, zC]
theorem noDb_sm : sm_Db 1048576 noDb := ⟨⟨Nat.zero_le _, fun x hx => by cases hx⟩, ⟨Nat.zero_le _, fun x hx => by cases hx⟩⟩
theorem rowsFor_sm {d : T_Db} {s : T_Stmt} (hd : sm_Db 1048576 d) (hs : sm_Stmt 1048576 s) (ok : cDbOk d = true) (t : T_Table) : sm_RowS 1048576 (rowsFor d s t) := by
 obtain ⟨hc, hl, _⟩ := db_facts ok
 rcases tAt_cases d.1 t.1 with c | ⟨i, ei, hi⟩
 ·unfold rowsFor
  rw [if_neg (by omega)]; exact smr_nil
 ·have hi2 : i < d.2.length := by omega
  have hr := hd.2.2 _ (zL hi2)
  unfold rowsFor
  rw [if_pos (by omega), ei, zE, getD_at hi, getD_at hi2]
  split
  ·exact cRowsDdl_sm (hd.1.2 _ (zL hi)) hr hs.2.2.2
  ·exact hr
theorem cExec0_sm {d : T_Db} {s : T_Stmt} (hd : sm_Db 1048576 d) (hs : sm_Stmt 1048576 s) (ok : cDbOk d = true) : sm_Db 1048576 (cExec0 d s).1 := by
 obtain ⟨hc, hl, _⟩ := db_facts ok
 unfold cExec0
 split
 ·exact noDb_sm
 rename_i h4
 split
 ·unfold cChDb
  split
  ·have hsm := cApply_sm hd.1 hs.2.2.2
   refine ⟨hsm, ⟨by rw [List.length_map]; exact hsm.1, fun r hr => ?_⟩⟩
   obtain ⟨t, _, rfl⟩ := List.mem_map.mp hr
   exact rowsFor_sm hd hs ok t
  ·exact noDb_sm
 ·rename_i k5
  rcases tAt_cases d.1 s.2.1 with c | ⟨i, ei, hi⟩
  ·exact absurd ⟨c, .inl k5⟩ h4
  have hi2 : i < d.2.length := by omega
  rw [ei, zE, getD_at hi, getD_at hi2]
  split
  ·refine ⟨hd.1, ⟨by rw [List.length_set]; exact hd.2.1, fun r hr => ?_⟩⟩
   rcases List.mem_or_eq_of_mem_set hr with e | e
   ·exact hd.2.2 r e
   ·rw [e]; exact cRows_sm (hd.1.2 _ (zL hi)) (hd.2.2 _ (zL hi2)) hs
  ·exact noDb_sm
theorem cExec_sm {d : T_Db} {s : T_Stmt} (hd : sm_Db 1048576 d) (hs : sm_Stmt 1048576 s) : sm_Db 1048576 (cExec d s).1 := by
 unfold cExec
 split
 ·rename_i h; exact cExec0_sm hd hs h.1
 ·exact noDb_sm
theorem same_Exec : EV fun n => ∀ (x0 : T_Db) (x1 : T_Stmt), sm_Db 1048576 x0 → sm_Stmt 1048576 x1 → ∃ r, spec_Exec n x0.1 x0.2 x1.1 x1.2.1 x1.2.2.1 x1.2.2.2.1 x1.2.2.2.2.1 x1.2.2.2.2.2.1 x1.2.2.2.2.2.2.1 x1.2.2.2.2.2.2.2.1 x1.2.2.2.2.2.2.2.2.1 x1.2.2.2.2.2.2.2.2.2 = some r ∧ impl_Exec n x0.1 x0.2 x1.1 x1.2.1 x1.2.2.1 x1.2.2.2.1 x1.2.2.2.2.1 x1.2.2.2.2.2.1 x1.2.2.2.2.2.2.1 x1.2.2.2.2.2.2.2.1 x1.2.2.2.2.2.2.2.2.1 x1.2.2.2.2.2.2.2.2.2 = some r ∧ sm_Db 1048576 r.1 :=
 (spec_Exec_ok.and impl_Exec_ok).mono fun n ⟨h1, h2⟩ d s hd hs => ⟨_, h1 d s hd hs, h2 d s hd hs, cExec_sm hd hs⟩
theorem law_Exec : EV fun n => ∀ (x0 : T_Db) (x1 : T_Stmt), sm_Db 140737488355328 x0 → sm_Stmt 140737488355328 x1 → laws_FnExactExec n x0.1 x0.2 x1.1 x1.2.1 x1.2.2.1 x1.2.2.2.1 x1.2.2.2.2.1 x1.2.2.2.2.2.1 x1.2.2.2.2.2.2.1 x1.2.2.2.2.2.2.2.1 x1.2.2.2.2.2.2.2.2.1 x1.2.2.2.2.2.2.2.2.2 = some true := ((eqDb_ok.and (eqStmt_ok.and (toDb_ok.and (toStmt_ok.and (szDb_ok.and (szStmt_ok.and (markDb_ok.and (markStmt_ok.and (heldDb_ok.and same_Exec)))))))))).up fun n h x0 x1 w0 w1 => by
 rw [laws_FnExactExec]
 refine law_sz (h.2.2.2.2.1 x0 (1048576 : Int) w0 (by decide) (by decide)) (by decide) (by decide) fun c0 l0 g0 g1 => ?_
 refine law_sz (h.2.2.2.2.2.1 x1 l0 w1 g0 (le_big g1)) g0 (g1) fun c1 l1 g2 g3 => ?_
 have s0 := cost_sm_Db (k := 1048576) c0
 have t0 := h.2.2.1 x0 s0
 have q0 := h.1 x0 x0 s0
 have s1 := cost_sm_Stmt (k := 1048576) c1
 have t1 := h.2.2.2.1 x1 s1
 have q1 := h.2.1 x1 x1 s1
 obtain ⟨r, e1, e2, z0⟩ := h.2.2.2.2.2.2.2.2.2 x0 x1 s0 s1
 have u0 := h.1 r.1 r.1 z0
 have b0 := mb_Db s0
 have b1 := mb_Stmt s1
 have m00 := h.2.2.2.2.2.2.1 x0 ((1 : Int)) s0 (by omega) (by simp only [markMax]; omega)
 have d00 : decide ((1 : Int) + (mc_Db x0 : Int) < 0) = false := zK (by omega)
 have m01 := h.2.2.2.2.2.2.2.1 x1 ((1 : Int) + (mc_Db x0 : Int)) s1 (by omega) (by simp only [markMax]; omega)
 have d01 : decide ((1 : Int) + (mc_Db x0 : Int) + (mc_Stmt x1 : Int) < 0) = false := zK (by omega)
 have b2 := mb_Db z0
 have m10 := h.2.2.2.2.2.2.1 r.1 ((1 : Int)) z0 (by omega) (by simp only [markMax]; omega)
 have n10 := h.2.2.2.2.2.2.2.2.1 r.1 ((1 : Int)) z0 (by omega) (by simp only [markMax]; omega)
 have d10 : decide ((1 : Int) + (mc_Db r.1 : Int) < 0) = false := zK (by omega)
 simp only [t0, q0, t1, q1, e1, e2, u0, m00, d00, m01, d01, m10, n10, d10, zC, zI, zT, zU, Bool.or_false, Bool.false_or, bne_self_eq_false, BEq.rfl, zB, zA]

end Go.Proofs.YtklgakikhdompaaGreat.Ev

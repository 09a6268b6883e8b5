/- The law FnExactValOk, over numbers and texts alone. -/
import Derived.Test.YtiahfopdamngiaaEvFnsFnExactValOk
set_option linter.all false
namespace Go.Proofs.Ytiahfopdamngiaa.Ev
open Go
theorem valOk_same (n : Nat) (a b : Int) (s : ByteArray) : ∃ r, g26 (n + 2) a b s = some r ∧ g28 (n + 2) a b s = some r := by
  simp only [g26, g28, g48, g49]
  generalize (s.toList == (⟨#[]⟩ : ByteArray).toList) = e
  have c0 : ∀ z : Int, (z == z) = true := fun z => by simp
  have cn : ∀ z y : Int, z ≠ y → (z == y) = false := fun z y h => by simpa using h
  by_cases h0 : a = 0
  · subst h0
    by_cases hb : b = 0
    · subst hb; exact ⟨e, by simp, by simp⟩
    · exact ⟨false, by simp [cn _ _ hb], by simp [cn _ _ hb]⟩
  · simp only [cn _ _ h0, cond_false]
    by_cases h1 : a = 1
    · subst h1
      by_cases hb : b = 0
      · subst hb; exact ⟨e, by simp, by simp⟩
      · by_cases hb1 : b = 1
        · subst hb1; exact ⟨e, by simp, by simp⟩
        · refine ⟨false, by simp [cn _ _ hb, cn _ _ hb1], ?_⟩
          by_cases h : 0 ≤ b
          · have : ¬ b ≤ 1 := by omega
            simp [h, this]
          · simp [h]
    · simp only [cn _ _ h1, cond_false]
      by_cases h2 : a = 2
      · subst h2
        by_cases h : -1099511627775 ≤ b <;> by_cases h' : b ≤ 1099511627775 <;> simp [h, h']
      · simp only [cn _ _ h2, cond_false]
        by_cases h3 : a = 3
        · subst h3
          by_cases hb : b = 0
          · subst hb; simp
          · simp [cn _ _ hb]
        · simp [cn _ _ h3]
theorem pure_FnExactValOk (x : (Kd.pair (.int .i64) (.pair (.int .i64) .str)).T) (w : Wf bytesOf (.pair (.int .i64) (.pair (.int .i64) .str)) x) : ∃ n, F8.run n (x, ()) = some true := by
  refine ⟨4, ?_⟩
  obtain ⟨a, b, s⟩ := x
  show g8 4 a b s = some true
  obtain ⟨r, h1, h2⟩ := valOk_same 1 a b s
  simp only [g8, g25, g27, Option.bind_some]
  by_cases h : IntKind.wrap .i64 (1048576 - (s.size : Int)) < 0
  · simp [h]
  · simp [h, h1, h2]
end Go.Proofs.Ytiahfopdamngiaa.Ev

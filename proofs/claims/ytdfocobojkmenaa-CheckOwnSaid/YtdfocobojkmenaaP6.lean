/-
  Plain facts on how many letters words have together; no program in sight.
-/
import Derived.Test.YtdfocobojkmenaaP4
set_option linter.unusedVariables false
set_option linter.unusedSimpArgs false
set_option linter.unusedSectionVars false
set_option linter.unnecessarySimpa false

/-! text PlSum -/
section
namespace Go.AM
open Go
/-- how many letters the first words have together -/
def sumL (words : List (List Int)) : Nat → Nat
  | 0 => 0
  | i + 1 => sumL words i + (words.getD i []).length
theorem sumL_le {words : List (List Int)} (h : ∀ r ∈ words, r.length ≤ 17592186044416) : ∀ i, sumL words i ≤ i * 17592186044416
  | 0 => by simp [sumL]
  | i + 1 => by
    have h1 := sumL_le h i
    have h2 : (words.getD i []).length ≤ 17592186044416 := by
      by_cases hi : i < words.length
      · rw [List.getD_eq_getElem?_getD, List.getElem?_eq_getElem hi]
        exact h _ (List.getElem_mem _)
      · rw [List.getD_eq_getElem?_getD, List.getElem?_eq_none (by omega)]
        simp
    simp only [sumL]; omega
theorem sumL_word {words : List (List Int)} {j : Nat} : ∀ {i : Nat}, j < i → (words.getD j []).length ≤ sumL words i
  | 0, h => by omega
  | i + 1, h => by
    by_cases e : j = i
    · subst e; simp only [sumL]; omega
    · have := sumL_word (words := words) (show j < i by omega)
      simp only [sumL]; omega
theorem sumL_mem {words : List (List Int)} {w : List Int} (h : w ∈ words) : w.length ≤ sumL words words.length := by
  obtain ⟨j, hj, rfl⟩ := List.getElem_of_mem h
  have := sumL_word (words := words) hj
  simpa [List.getD, hj] using this
end Go.AM
end

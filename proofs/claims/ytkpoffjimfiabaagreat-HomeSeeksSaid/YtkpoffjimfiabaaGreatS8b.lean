/-
  Contracts of Set, Image and Compact; conditions in each statement.
-/
import Derived.Test.YtkpoffjimfiabaaGreatS3
import Derived.Test.YtkpoffjimfiabaaGreatP1
import Derived.Test.YtkpoffjimfiabaaGreatF5
import Derived.Shelf.Slices.Cells
set_option linter.unusedVariables false
set_option linter.unusedSimpArgs false
set_option linter.unusedSectionVars false
set_option linter.unnecessarySimpa false

section
namespace Go.AM
open Go Go.Proofs
theorem f27 (y : Yc) (g : Gh) (l : List Int) (ai : AI) (hl : l.length < 4611686018427387904) : GCall Tryz.prog y 27 g [.own 0] [.arr (.ints .i64 l) ai] (fun g' r A O => g' = g ∧ r = .own 0 ∧ A = [.junk] ∧ O = [.arr (.ints .i64 (Lib.compact l)) ai]) := by
 refine gcall_cut Tryz.func27 rfl rfl (Lib.compact_length_le l) (fun h => ?_) (fun _ a cap w => Tryz.slices_Compact_int_empty a cap w) (fun w b cap hH hb hc => (Tryz.slices_Compact_int b 0 cap l w hH (by omega) hc).mono ?_)
 ·cases l with
  | nil => rfl
  | cons x l =>
   have : x ∈ Lib.compact (x :: l) := mem_compact.2 (by simp)
   rw [List.eq_nil_of_length_eq_zero h] at this
   cases this
 ·rintro e w' ⟨rfl, q, rfl⟩
  refine ⟨rfl, q, #[], (Lib.compact l ++ List.replicate (l.length - (Lib.compact l).length) 0).toArray, ?_, fun j hj => ?_, by rw [rowWorld, Sort.grow_empty]⟩
  ·have := Lib.compact_length_le l
   simp; omega
  ·rw [getElem!_pos _ j (by simp; omega)]
   simp [List.getElem_append_left hj, List.getD, hj]
end Go.AM
end

/-
  Contracts of step, after, Homes and Tells on both sides; conditions in each statement.
-/
import Derived.Test.YtkpoffjimfiabaaGreatS3
import Derived.Test.YtkpoffjimfiabaaGreatP3
import Derived.Test.YtkpoffjimfiabaaGreatF5
set_option linter.unusedVariables false
set_option linter.unusedSimpArgs false
set_option linter.unusedSectionVars false
set_option linter.unnecessarySimpa false

section
namespace Go.AM
open Go Go.Proofs Go.Sort
theorem lt16 {o : Int} (h : 0 ≤ o ∧ o < 16) : o = 0 ∨ o = 1 ∨ o = 2 ∨ o = 3 ∨ o = 4 ∨ o = 5 ∨ o = 6 ∨ o = 7 ∨ o = 8 ∨ o = 9 ∨ o = 10 ∨ o = 11 ∨ o = 12 ∨ o = 13 ∨ o = 14 ∨ o = 15 := by omega
def own16 : List AV := [.own 1, .own 2, .own 3, .own 4, .own 5, .own 6, .own 7, .own 8, .own 9, .own 10, .own 11, .own 12, .own 13, .own 14, .own 15, .own 16]
def arr16 (e : TypeId) (R : List (List Int)) : List AObj := [.arr (.ints .i64 (R.getD 0 [])) ⟨e, true⟩, .arr (.ints .i64 (R.getD 1 [])) ⟨e, true⟩, .arr (.ints .i64 (R.getD 2 [])) ⟨e, true⟩, .arr (.ints .i64 (R.getD 3 [])) ⟨e, true⟩, .arr (.ints .i64 (R.getD 4 [])) ⟨e, true⟩, .arr (.ints .i64 (R.getD 5 [])) ⟨e, true⟩, .arr (.ints .i64 (R.getD 6 [])) ⟨e, true⟩, .arr (.ints .i64 (R.getD 7 [])) ⟨e, true⟩, .arr (.ints .i64 (R.getD 8 [])) ⟨e, true⟩, .arr (.ints .i64 (R.getD 9 [])) ⟨e, true⟩, .arr (.ints .i64 (R.getD 10 [])) ⟨e, true⟩, .arr (.ints .i64 (R.getD 11 [])) ⟨e, true⟩, .arr (.ints .i64 (R.getD 12 [])) ⟨e, true⟩, .arr (.ints .i64 (R.getD 13 [])) ⟨e, true⟩, .arr (.ints .i64 (R.getD 14 [])) ⟨e, true⟩, .arr (.ints .i64 (R.getD 15 [])) ⟨e, true⟩]
theorem own16_eq : ownsFrom 1 16 = own16 := rfl
def jag (i : Nat) : List AV := List.replicate i .junk ++ ownsFrom 1 (16 - i)
def ars (e : TypeId) (R : List (List Int)) (i : Nat) : List AObj := (List.range (16 - i)).map fun j => .arr (.ints .i64 (R.getD (i + j) [])) ⟨e, true⟩
theorem jag_0 : jag 0 = [.own 1, .own 2, .own 3, .own 4, .own 5, .own 6, .own 7, .own 8, .own 9, .own 10, .own 11, .own 12, .own 13, .own 14, .own 15, .own 16] := rfl
theorem ars_0 (e : TypeId) (R : List (List Int)) : ars e R 0 = [.arr (.ints .i64 (R.getD 0 [])) ⟨e, true⟩, .arr (.ints .i64 (R.getD 1 [])) ⟨e, true⟩, .arr (.ints .i64 (R.getD 2 [])) ⟨e, true⟩, .arr (.ints .i64 (R.getD 3 [])) ⟨e, true⟩, .arr (.ints .i64 (R.getD 4 [])) ⟨e, true⟩, .arr (.ints .i64 (R.getD 5 [])) ⟨e, true⟩, .arr (.ints .i64 (R.getD 6 [])) ⟨e, true⟩, .arr (.ints .i64 (R.getD 7 [])) ⟨e, true⟩, .arr (.ints .i64 (R.getD 8 [])) ⟨e, true⟩, .arr (.ints .i64 (R.getD 9 [])) ⟨e, true⟩, .arr (.ints .i64 (R.getD 10 [])) ⟨e, true⟩, .arr (.ints .i64 (R.getD 11 [])) ⟨e, true⟩, .arr (.ints .i64 (R.getD 12 [])) ⟨e, true⟩, .arr (.ints .i64 (R.getD 13 [])) ⟨e, true⟩, .arr (.ints .i64 (R.getD 14 [])) ⟨e, true⟩, .arr (.ints .i64 (R.getD 15 [])) ⟨e, true⟩] := rfl
theorem jag_1 : jag 1 = [.junk, .own 1, .own 2, .own 3, .own 4, .own 5, .own 6, .own 7, .own 8, .own 9, .own 10, .own 11, .own 12, .own 13, .own 14, .own 15] := rfl
theorem ars_1 (e : TypeId) (R : List (List Int)) : ars e R 1 = [.arr (.ints .i64 (R.getD 1 [])) ⟨e, true⟩, .arr (.ints .i64 (R.getD 2 [])) ⟨e, true⟩, .arr (.ints .i64 (R.getD 3 [])) ⟨e, true⟩, .arr (.ints .i64 (R.getD 4 [])) ⟨e, true⟩, .arr (.ints .i64 (R.getD 5 [])) ⟨e, true⟩, .arr (.ints .i64 (R.getD 6 [])) ⟨e, true⟩, .arr (.ints .i64 (R.getD 7 [])) ⟨e, true⟩, .arr (.ints .i64 (R.getD 8 [])) ⟨e, true⟩, .arr (.ints .i64 (R.getD 9 [])) ⟨e, true⟩, .arr (.ints .i64 (R.getD 10 [])) ⟨e, true⟩, .arr (.ints .i64 (R.getD 11 [])) ⟨e, true⟩, .arr (.ints .i64 (R.getD 12 [])) ⟨e, true⟩, .arr (.ints .i64 (R.getD 13 [])) ⟨e, true⟩, .arr (.ints .i64 (R.getD 14 [])) ⟨e, true⟩, .arr (.ints .i64 (R.getD 15 [])) ⟨e, true⟩] := rfl
theorem jag_2 : jag 2 = [.junk, .junk, .own 1, .own 2, .own 3, .own 4, .own 5, .own 6, .own 7, .own 8, .own 9, .own 10, .own 11, .own 12, .own 13, .own 14] := rfl
theorem ars_2 (e : TypeId) (R : List (List Int)) : ars e R 2 = [.arr (.ints .i64 (R.getD 2 [])) ⟨e, true⟩, .arr (.ints .i64 (R.getD 3 [])) ⟨e, true⟩, .arr (.ints .i64 (R.getD 4 [])) ⟨e, true⟩, .arr (.ints .i64 (R.getD 5 [])) ⟨e, true⟩, .arr (.ints .i64 (R.getD 6 [])) ⟨e, true⟩, .arr (.ints .i64 (R.getD 7 [])) ⟨e, true⟩, .arr (.ints .i64 (R.getD 8 [])) ⟨e, true⟩, .arr (.ints .i64 (R.getD 9 [])) ⟨e, true⟩, .arr (.ints .i64 (R.getD 10 [])) ⟨e, true⟩, .arr (.ints .i64 (R.getD 11 [])) ⟨e, true⟩, .arr (.ints .i64 (R.getD 12 [])) ⟨e, true⟩, .arr (.ints .i64 (R.getD 13 [])) ⟨e, true⟩, .arr (.ints .i64 (R.getD 14 [])) ⟨e, true⟩, .arr (.ints .i64 (R.getD 15 [])) ⟨e, true⟩] := rfl
theorem jag_3 : jag 3 = [.junk, .junk, .junk, .own 1, .own 2, .own 3, .own 4, .own 5, .own 6, .own 7, .own 8, .own 9, .own 10, .own 11, .own 12, .own 13] := rfl
theorem ars_3 (e : TypeId) (R : List (List Int)) : ars e R 3 = [.arr (.ints .i64 (R.getD 3 [])) ⟨e, true⟩, .arr (.ints .i64 (R.getD 4 [])) ⟨e, true⟩, .arr (.ints .i64 (R.getD 5 [])) ⟨e, true⟩, .arr (.ints .i64 (R.getD 6 [])) ⟨e, true⟩, .arr (.ints .i64 (R.getD 7 [])) ⟨e, true⟩, .arr (.ints .i64 (R.getD 8 [])) ⟨e, true⟩, .arr (.ints .i64 (R.getD 9 [])) ⟨e, true⟩, .arr (.ints .i64 (R.getD 10 [])) ⟨e, true⟩, .arr (.ints .i64 (R.getD 11 [])) ⟨e, true⟩, .arr (.ints .i64 (R.getD 12 [])) ⟨e, true⟩, .arr (.ints .i64 (R.getD 13 [])) ⟨e, true⟩, .arr (.ints .i64 (R.getD 14 [])) ⟨e, true⟩, .arr (.ints .i64 (R.getD 15 [])) ⟨e, true⟩] := rfl
theorem jag_4 : jag 4 = [.junk, .junk, .junk, .junk, .own 1, .own 2, .own 3, .own 4, .own 5, .own 6, .own 7, .own 8, .own 9, .own 10, .own 11, .own 12] := rfl
theorem ars_4 (e : TypeId) (R : List (List Int)) : ars e R 4 = [.arr (.ints .i64 (R.getD 4 [])) ⟨e, true⟩, .arr (.ints .i64 (R.getD 5 [])) ⟨e, true⟩, .arr (.ints .i64 (R.getD 6 [])) ⟨e, true⟩, .arr (.ints .i64 (R.getD 7 [])) ⟨e, true⟩, .arr (.ints .i64 (R.getD 8 [])) ⟨e, true⟩, .arr (.ints .i64 (R.getD 9 [])) ⟨e, true⟩, .arr (.ints .i64 (R.getD 10 [])) ⟨e, true⟩, .arr (.ints .i64 (R.getD 11 [])) ⟨e, true⟩, .arr (.ints .i64 (R.getD 12 [])) ⟨e, true⟩, .arr (.ints .i64 (R.getD 13 [])) ⟨e, true⟩, .arr (.ints .i64 (R.getD 14 [])) ⟨e, true⟩, .arr (.ints .i64 (R.getD 15 [])) ⟨e, true⟩] := rfl
theorem jag_5 : jag 5 = [.junk, .junk, .junk, .junk, .junk, .own 1, .own 2, .own 3, .own 4, .own 5, .own 6, .own 7, .own 8, .own 9, .own 10, .own 11] := rfl
theorem ars_5 (e : TypeId) (R : List (List Int)) : ars e R 5 = [.arr (.ints .i64 (R.getD 5 [])) ⟨e, true⟩, .arr (.ints .i64 (R.getD 6 [])) ⟨e, true⟩, .arr (.ints .i64 (R.getD 7 [])) ⟨e, true⟩, .arr (.ints .i64 (R.getD 8 [])) ⟨e, true⟩, .arr (.ints .i64 (R.getD 9 [])) ⟨e, true⟩, .arr (.ints .i64 (R.getD 10 [])) ⟨e, true⟩, .arr (.ints .i64 (R.getD 11 [])) ⟨e, true⟩, .arr (.ints .i64 (R.getD 12 [])) ⟨e, true⟩, .arr (.ints .i64 (R.getD 13 [])) ⟨e, true⟩, .arr (.ints .i64 (R.getD 14 [])) ⟨e, true⟩, .arr (.ints .i64 (R.getD 15 [])) ⟨e, true⟩] := rfl
theorem jag_6 : jag 6 = [.junk, .junk, .junk, .junk, .junk, .junk, .own 1, .own 2, .own 3, .own 4, .own 5, .own 6, .own 7, .own 8, .own 9, .own 10] := rfl
theorem ars_6 (e : TypeId) (R : List (List Int)) : ars e R 6 = [.arr (.ints .i64 (R.getD 6 [])) ⟨e, true⟩, .arr (.ints .i64 (R.getD 7 [])) ⟨e, true⟩, .arr (.ints .i64 (R.getD 8 [])) ⟨e, true⟩, .arr (.ints .i64 (R.getD 9 [])) ⟨e, true⟩, .arr (.ints .i64 (R.getD 10 [])) ⟨e, true⟩, .arr (.ints .i64 (R.getD 11 [])) ⟨e, true⟩, .arr (.ints .i64 (R.getD 12 [])) ⟨e, true⟩, .arr (.ints .i64 (R.getD 13 [])) ⟨e, true⟩, .arr (.ints .i64 (R.getD 14 [])) ⟨e, true⟩, .arr (.ints .i64 (R.getD 15 [])) ⟨e, true⟩] := rfl
theorem jag_7 : jag 7 = [.junk, .junk, .junk, .junk, .junk, .junk, .junk, .own 1, .own 2, .own 3, .own 4, .own 5, .own 6, .own 7, .own 8, .own 9] := rfl
theorem ars_7 (e : TypeId) (R : List (List Int)) : ars e R 7 = [.arr (.ints .i64 (R.getD 7 [])) ⟨e, true⟩, .arr (.ints .i64 (R.getD 8 [])) ⟨e, true⟩, .arr (.ints .i64 (R.getD 9 [])) ⟨e, true⟩, .arr (.ints .i64 (R.getD 10 [])) ⟨e, true⟩, .arr (.ints .i64 (R.getD 11 [])) ⟨e, true⟩, .arr (.ints .i64 (R.getD 12 [])) ⟨e, true⟩, .arr (.ints .i64 (R.getD 13 [])) ⟨e, true⟩, .arr (.ints .i64 (R.getD 14 [])) ⟨e, true⟩, .arr (.ints .i64 (R.getD 15 [])) ⟨e, true⟩] := rfl
theorem jag_8 : jag 8 = [.junk, .junk, .junk, .junk, .junk, .junk, .junk, .junk, .own 1, .own 2, .own 3, .own 4, .own 5, .own 6, .own 7, .own 8] := rfl
theorem ars_8 (e : TypeId) (R : List (List Int)) : ars e R 8 = [.arr (.ints .i64 (R.getD 8 [])) ⟨e, true⟩, .arr (.ints .i64 (R.getD 9 [])) ⟨e, true⟩, .arr (.ints .i64 (R.getD 10 [])) ⟨e, true⟩, .arr (.ints .i64 (R.getD 11 [])) ⟨e, true⟩, .arr (.ints .i64 (R.getD 12 [])) ⟨e, true⟩, .arr (.ints .i64 (R.getD 13 [])) ⟨e, true⟩, .arr (.ints .i64 (R.getD 14 [])) ⟨e, true⟩, .arr (.ints .i64 (R.getD 15 [])) ⟨e, true⟩] := rfl
theorem jag_9 : jag 9 = [.junk, .junk, .junk, .junk, .junk, .junk, .junk, .junk, .junk, .own 1, .own 2, .own 3, .own 4, .own 5, .own 6, .own 7] := rfl
theorem ars_9 (e : TypeId) (R : List (List Int)) : ars e R 9 = [.arr (.ints .i64 (R.getD 9 [])) ⟨e, true⟩, .arr (.ints .i64 (R.getD 10 [])) ⟨e, true⟩, .arr (.ints .i64 (R.getD 11 [])) ⟨e, true⟩, .arr (.ints .i64 (R.getD 12 [])) ⟨e, true⟩, .arr (.ints .i64 (R.getD 13 [])) ⟨e, true⟩, .arr (.ints .i64 (R.getD 14 [])) ⟨e, true⟩, .arr (.ints .i64 (R.getD 15 [])) ⟨e, true⟩] := rfl
theorem jag_10 : jag 10 = [.junk, .junk, .junk, .junk, .junk, .junk, .junk, .junk, .junk, .junk, .own 1, .own 2, .own 3, .own 4, .own 5, .own 6] := rfl
theorem ars_10 (e : TypeId) (R : List (List Int)) : ars e R 10 = [.arr (.ints .i64 (R.getD 10 [])) ⟨e, true⟩, .arr (.ints .i64 (R.getD 11 [])) ⟨e, true⟩, .arr (.ints .i64 (R.getD 12 [])) ⟨e, true⟩, .arr (.ints .i64 (R.getD 13 [])) ⟨e, true⟩, .arr (.ints .i64 (R.getD 14 [])) ⟨e, true⟩, .arr (.ints .i64 (R.getD 15 [])) ⟨e, true⟩] := rfl
theorem jag_11 : jag 11 = [.junk, .junk, .junk, .junk, .junk, .junk, .junk, .junk, .junk, .junk, .junk, .own 1, .own 2, .own 3, .own 4, .own 5] := rfl
theorem ars_11 (e : TypeId) (R : List (List Int)) : ars e R 11 = [.arr (.ints .i64 (R.getD 11 [])) ⟨e, true⟩, .arr (.ints .i64 (R.getD 12 [])) ⟨e, true⟩, .arr (.ints .i64 (R.getD 13 [])) ⟨e, true⟩, .arr (.ints .i64 (R.getD 14 [])) ⟨e, true⟩, .arr (.ints .i64 (R.getD 15 [])) ⟨e, true⟩] := rfl
theorem jag_12 : jag 12 = [.junk, .junk, .junk, .junk, .junk, .junk, .junk, .junk, .junk, .junk, .junk, .junk, .own 1, .own 2, .own 3, .own 4] := rfl
theorem ars_12 (e : TypeId) (R : List (List Int)) : ars e R 12 = [.arr (.ints .i64 (R.getD 12 [])) ⟨e, true⟩, .arr (.ints .i64 (R.getD 13 [])) ⟨e, true⟩, .arr (.ints .i64 (R.getD 14 [])) ⟨e, true⟩, .arr (.ints .i64 (R.getD 15 [])) ⟨e, true⟩] := rfl
theorem jag_13 : jag 13 = [.junk, .junk, .junk, .junk, .junk, .junk, .junk, .junk, .junk, .junk, .junk, .junk, .junk, .own 1, .own 2, .own 3] := rfl
theorem ars_13 (e : TypeId) (R : List (List Int)) : ars e R 13 = [.arr (.ints .i64 (R.getD 13 [])) ⟨e, true⟩, .arr (.ints .i64 (R.getD 14 [])) ⟨e, true⟩, .arr (.ints .i64 (R.getD 15 [])) ⟨e, true⟩] := rfl
theorem jag_14 : jag 14 = [.junk, .junk, .junk, .junk, .junk, .junk, .junk, .junk, .junk, .junk, .junk, .junk, .junk, .junk, .own 1, .own 2] := rfl
theorem ars_14 (e : TypeId) (R : List (List Int)) : ars e R 14 = [.arr (.ints .i64 (R.getD 14 [])) ⟨e, true⟩, .arr (.ints .i64 (R.getD 15 [])) ⟨e, true⟩] := rfl
theorem jag_15 : jag 15 = [.junk, .junk, .junk, .junk, .junk, .junk, .junk, .junk, .junk, .junk, .junk, .junk, .junk, .junk, .junk, .own 1] := rfl
theorem ars_15 (e : TypeId) (R : List (List Int)) : ars e R 15 = [.arr (.ints .i64 (R.getD 15 [])) ⟨e, true⟩] := rfl
theorem jag_16 : jag 16 = [.junk, .junk, .junk, .junk, .junk, .junk, .junk, .junk, .junk, .junk, .junk, .junk, .junk, .junk, .junk, .junk] := rfl
theorem ars_16 (e : TypeId) (R : List (List Int)) : ars e R 16 = [] := rfl
attribute [push_cast] jag_0 ars_0 jag_1 ars_1 jag_2 ars_2 jag_3 ars_3 jag_4 ars_4 jag_5 ars_5 jag_6 ars_6 jag_7 ars_7 jag_8 ars_8 jag_9 ars_9 jag_10 ars_10 jag_11 ars_11 jag_12 ars_12 jag_13 ars_13 jag_14 ars_14 jag_15 ars_15 jag_16 ars_16
theorem outB_snoc {R : List (List Int)} {i : Nat} (h : i < R.length) : outB (R.take (i + 1)) = outB (R.take i) ++ (if 0 < (R.getD i []).length then [sortL (R.getD i [])] else []) := by
 rw [List.take_succ_eq_append_getElem h]
 unfold outB
 rw [List.filter_append, List.map_append]
 have : R.getD i [] = R[i] := by simp [List.getD, h]
 rw [this]
 by_cases h0 : 0 < R[i].length
 ·simp [h0]
 ·simp [h0]
attribute [push_cast] own16 arr16 own16_eq
theorem mvP_row {N O : List (List Int)} (x : Int) (b : List Int) (o : Nat) : ((mvP N O x b).1.getD o []).length ≤ b.length := by
 induction b using snocRec with
 | h0 =>
  simp only [mvP, List.foldl_nil]
  rw [List.getD_eq_getElem?_getD, List.getElem?_replicate]
  split <;> simp
 | h1 l s ih =>
  rw [mvP_snoc, List.length_append]
  unfold mvR
  split
  ·simp only [List.length_singleton]; omega
  ·simp only
   rw [getD_setR]
   split
   ·rename_i e
    rw [e.1]
    simp only [List.length_append, List.length_singleton]
    omega
   ·simp only [List.length_singleton]; omega
def c59 : VCfg := ⟨⟨[], [], [14], [0, 1, 2, 3, 6, 7, 8, 9, 11, 12, 13, 14, 16, 17, 18, 19, 20, 43, 53, 54, 55, 59]⟩, [(6, (.op 0 .loose (.op 1 .loose (.op 2 .loose (.op 3 .loose (.op 4 .loose (.op 5 .loose (.op 6 .loose (.op 7 .loose (.op 8 .loose (.op 9 .loose (.op 10 .loose (.op 11 .loose (.op 12 .loose (.op 13 .loose (.op 14 .loose (.op 15 .loose (.op 16 .loose (.op 17 .loose .nil)))))))))))))))))))], [85, 26], [43, 61]⟩
set_option maxHeartbeats 16000000 in
set_option maxRecDepth 100000 in
theorem f59 (N O : List (List Int)) (z z' u : Bool) (b : List Int) (x : Int) (k : Nat) (hV : VM N O k) (hx : 0 ≤ x ∧ x < k) (hb : ∀ s ∈ b, 0 ≤ s ∧ s < N.length) (hl : b.length ≤ 60) :
  ACall Tryz.prog 59 [.agg [.pay (.rows (N)) (z), .pay (.rows (O)) (z')], .pay (.ints .i64 b) u, .int .i64 x] (fun r objs => ∃ nz, r = .tup [.pay (.rows (movB N O b x)) nz, .bool (movW N O b x)] ∧ objs = []) := by
 suffices h : ACall Tryz.prog 59 [.agg [.pay (.rows (N)) (z), .pay (.rows (O)) (z')], .pay (.ints .i64 b) u, .int .i64 x] (fun r objs => r = .tup [.own 0, .bool (movW N O b x)] ∧ objs = [.arr (.rows (movB N O b x)) ⟨27, true⟩]) by
  refine h.frz ?_
  rintro r objs ⟨rfl, rfl⟩
  exact ⟨[0], _, 1, rfl, _, rfl, rfl⟩
 refine acall_intro (tyP_ok _) c59 2000 [.tmp 6, .tmp 7] Tryz.func59 rfl (by rfl) rfl (by kernel_rfl) ?_
 unfold Tryz.f59
 simp -implicitDefEqProofs (maxSteps := 4000000) (disch := omega) only [push_cast, c59, Nat.reduceAdd, Nat.reduceSub, Nat.reduceMul, Nat.reduceBEq, Int.reduceToNat, Int.reduceNeg, Int.reduceLE, Int.reduceLT, Int.reduceBEq, Int.reduceBNe, Int.reduceEq, eq_self, reduceCtorEq]
 refine awp_weak (Weak.virts (i := 0) (p := .ints .i64 []) 3 rfl rfl 16 (by decide) fun c hc => ?_) ?_
 ·have : c = 0 ∨ c = 1 ∨ c = 2 ∨ c = 3 ∨ c = 4 ∨ c = 5 ∨ c = 6 ∨ c = 7 ∨ c = 8 ∨ c = 9 ∨ c = 10 ∨ c = 11 ∨ c = 12 ∨ c = 13 ∨ c = 14 ∨ c = 15 := by omega
  rcases this with rfl | rfl | rfl | rfl | rfl | rfl | rfl | rfl | rfl | rfl | rfl | rfl | rfl | rfl | rfl | rfl <;> rfl
 refine awp_upto (tyP_ok _) c59 2000 [2, 3, 6, 7, 8, 9, 17, 18, 19] (b.length) (fun _ => True) (fun i => ⟨69, [(2, .int .i64 x), (3, .fref [.pay (.rows N) z, .pay (.rows O) z']), (6, .pay (.rows []) true), (7, .bool false), (8, .ref 0 0), (9, .bool (mvP N O x (b.take i)).2), (17, .pay (.ints .i64 b) u), (18, .int .i64 b.length), (19, .int .i64 i)], .box own16 :: arr16 3 (mvP N O x (b.take i)).1⟩) (by kernel_rfl) ?_ ?_ ?_
 ·simp -implicitDefEqProofs (maxSteps := 4000000) (disch := omega) only [push_cast, c59, Nat.reduceAdd, Nat.reduceSub, Nat.reduceMul, Nat.reduceBEq, Int.reduceToNat, Int.reduceNeg, Int.reduceLE, Int.reduceLT, Int.reduceBEq, Int.reduceBNe, Int.reduceEq, eq_self, reduceCtorEq]
  exact ⟨rfl, rfl, rfl, rfl, rfl, rfl, rfl, rfl, rfl, rfl, rfl, rfl, rfl, rfl, rfl, rfl, rfl⟩
 ·trivial
 intro i hi _
 generalize hq : mvP N O x (b.take i) = q at *
 have h16 : q.1.length = 16 := by rw [← hq]; exact mvP_len _ _
 have hrow : ∀ o, (q.1.getD o []).length ≤ 60 := fun o => by
  have := mvP_row (N := N) (O := O) x (b.take i) o
  rw [hq, List.length_take] at this
  omega
 by_cases hlt : i < b.length
 ·have hst : mvP N O x (b.take (i + 1)) = mvR N O x q (b.getD i 0) := by rw [take_snoc hlt, mvP_snoc, hq]
  have hs := hb _ (getD_mem hlt)
  obtain ⟨ho1, ho2, ho3⟩ := hV.out hs.1 hs.2 hx.1 hx.2
  have hnl := (hV.v.row _ (getD_mem' (show (b.getD i 0).toNat < N.length by omega))).1
  have hol := hV.ol
  unfold outG at ho2 ho3
  rcases lt16 ⟨ho2, ho3⟩ with e | e | e | e | e | e | e | e | e | e | e | e | e | e | e | e
  ·simp -implicitDefEqProofs (maxSteps := 4000000) (disch := omega) only [push_cast, c59, e, hlt, Nat.reduceAdd, Nat.reduceSub, Nat.reduceMul, Nat.reduceBEq, Int.reduceToNat, Int.reduceNeg, Int.reduceLE, Int.reduceLT, Int.reduceBEq, Int.reduceBNe, Int.reduceEq, eq_self, reduceCtorEq]
   refine ⟨⟨hs.1, by omega⟩, by omega, hs, by omega, ?_⟩
   refine lcallW_eq _ _ _ (f85 _ _ _ _ _ (by have := hrow 0; omega)) ?_
   simp -implicitDefEqProofs (maxSteps := 4000000) (disch := omega) only [push_cast, c59, e, hlt, Nat.reduceAdd, Nat.reduceSub, Nat.reduceMul, Nat.reduceBEq, Int.reduceToNat, Int.reduceNeg, Int.reduceLE, Int.reduceLT, Int.reduceBEq, Int.reduceBNe, Int.reduceEq, eq_self, reduceCtorEq]
   have hm : mvR N O x q (b.getD i 0) = if (N.getD (b.getD i 0).toNat []).getD x.toNat 0 ∈ q.1.getD 0 [] then (q.1, false) else (q.1.set 0 (q.1.getD 0 [] ++ [(N.getD (b.getD i 0).toNat []).getD x.toNat 0]), q.2) := by
    simp only [mvR, outG, nxG, e]
    rfl
   rw [hst, hm]
   refine ⟨fun hin => ?_, fun hn => ?_⟩
   ·rw [if_pos hin]
    exact ⟨rfl, rfl, rfl, rfl, rfl, rfl, rfl, rfl, rfl, rfl, rfl, rfl, rfl, rfl, rfl, rfl, rfl⟩
   ·rw [if_neg hn]
    refine ⟨by have := hrow 0; omega, rfl, ?_⟩
    simp only [getD_setR, h16]
    simp
  ·simp -implicitDefEqProofs (maxSteps := 4000000) (disch := omega) only [push_cast, c59, e, hlt, Nat.reduceAdd, Nat.reduceSub, Nat.reduceMul, Nat.reduceBEq, Int.reduceToNat, Int.reduceNeg, Int.reduceLE, Int.reduceLT, Int.reduceBEq, Int.reduceBNe, Int.reduceEq, eq_self, reduceCtorEq]
   refine ⟨⟨hs.1, by omega⟩, by omega, hs, by omega, ?_⟩
   refine lcallW_eq _ _ _ (f85 _ _ _ _ _ (by have := hrow 1; omega)) ?_
   simp -implicitDefEqProofs (maxSteps := 4000000) (disch := omega) only [push_cast, c59, e, hlt, Nat.reduceAdd, Nat.reduceSub, Nat.reduceMul, Nat.reduceBEq, Int.reduceToNat, Int.reduceNeg, Int.reduceLE, Int.reduceLT, Int.reduceBEq, Int.reduceBNe, Int.reduceEq, eq_self, reduceCtorEq]
   have hm : mvR N O x q (b.getD i 0) = if (N.getD (b.getD i 0).toNat []).getD x.toNat 0 ∈ q.1.getD 1 [] then (q.1, false) else (q.1.set 1 (q.1.getD 1 [] ++ [(N.getD (b.getD i 0).toNat []).getD x.toNat 0]), q.2) := by
    simp only [mvR, outG, nxG, e]
    rfl
   rw [hst, hm]
   refine ⟨fun hin => ?_, fun hn => ?_⟩
   ·rw [if_pos hin]
    exact ⟨rfl, rfl, rfl, rfl, rfl, rfl, rfl, rfl, rfl, rfl, rfl, rfl, rfl, rfl, rfl, rfl, rfl⟩
   ·rw [if_neg hn]
    refine ⟨by have := hrow 1; omega, rfl, ?_⟩
    simp only [getD_setR, h16]
    simp
  ·simp -implicitDefEqProofs (maxSteps := 4000000) (disch := omega) only [push_cast, c59, e, hlt, Nat.reduceAdd, Nat.reduceSub, Nat.reduceMul, Nat.reduceBEq, Int.reduceToNat, Int.reduceNeg, Int.reduceLE, Int.reduceLT, Int.reduceBEq, Int.reduceBNe, Int.reduceEq, eq_self, reduceCtorEq]
   refine ⟨⟨hs.1, by omega⟩, by omega, hs, by omega, ?_⟩
   refine lcallW_eq _ _ _ (f85 _ _ _ _ _ (by have := hrow 2; omega)) ?_
   simp -implicitDefEqProofs (maxSteps := 4000000) (disch := omega) only [push_cast, c59, e, hlt, Nat.reduceAdd, Nat.reduceSub, Nat.reduceMul, Nat.reduceBEq, Int.reduceToNat, Int.reduceNeg, Int.reduceLE, Int.reduceLT, Int.reduceBEq, Int.reduceBNe, Int.reduceEq, eq_self, reduceCtorEq]
   have hm : mvR N O x q (b.getD i 0) = if (N.getD (b.getD i 0).toNat []).getD x.toNat 0 ∈ q.1.getD 2 [] then (q.1, false) else (q.1.set 2 (q.1.getD 2 [] ++ [(N.getD (b.getD i 0).toNat []).getD x.toNat 0]), q.2) := by
    simp only [mvR, outG, nxG, e]
    rfl
   rw [hst, hm]
   refine ⟨fun hin => ?_, fun hn => ?_⟩
   ·rw [if_pos hin]
    exact ⟨rfl, rfl, rfl, rfl, rfl, rfl, rfl, rfl, rfl, rfl, rfl, rfl, rfl, rfl, rfl, rfl, rfl⟩
   ·rw [if_neg hn]
    refine ⟨by have := hrow 2; omega, rfl, ?_⟩
    simp only [getD_setR, h16]
    simp
  ·simp -implicitDefEqProofs (maxSteps := 4000000) (disch := omega) only [push_cast, c59, e, hlt, Nat.reduceAdd, Nat.reduceSub, Nat.reduceMul, Nat.reduceBEq, Int.reduceToNat, Int.reduceNeg, Int.reduceLE, Int.reduceLT, Int.reduceBEq, Int.reduceBNe, Int.reduceEq, eq_self, reduceCtorEq]
   refine ⟨⟨hs.1, by omega⟩, by omega, hs, by omega, ?_⟩
   refine lcallW_eq _ _ _ (f85 _ _ _ _ _ (by have := hrow 3; omega)) ?_
   simp -implicitDefEqProofs (maxSteps := 4000000) (disch := omega) only [push_cast, c59, e, hlt, Nat.reduceAdd, Nat.reduceSub, Nat.reduceMul, Nat.reduceBEq, Int.reduceToNat, Int.reduceNeg, Int.reduceLE, Int.reduceLT, Int.reduceBEq, Int.reduceBNe, Int.reduceEq, eq_self, reduceCtorEq]
   have hm : mvR N O x q (b.getD i 0) = if (N.getD (b.getD i 0).toNat []).getD x.toNat 0 ∈ q.1.getD 3 [] then (q.1, false) else (q.1.set 3 (q.1.getD 3 [] ++ [(N.getD (b.getD i 0).toNat []).getD x.toNat 0]), q.2) := by
    simp only [mvR, outG, nxG, e]
    rfl
   rw [hst, hm]
   refine ⟨fun hin => ?_, fun hn => ?_⟩
   ·rw [if_pos hin]
    exact ⟨rfl, rfl, rfl, rfl, rfl, rfl, rfl, rfl, rfl, rfl, rfl, rfl, rfl, rfl, rfl, rfl, rfl⟩
   ·rw [if_neg hn]
    refine ⟨by have := hrow 3; omega, rfl, ?_⟩
    simp only [getD_setR, h16]
    simp
  ·simp -implicitDefEqProofs (maxSteps := 4000000) (disch := omega) only [push_cast, c59, e, hlt, Nat.reduceAdd, Nat.reduceSub, Nat.reduceMul, Nat.reduceBEq, Int.reduceToNat, Int.reduceNeg, Int.reduceLE, Int.reduceLT, Int.reduceBEq, Int.reduceBNe, Int.reduceEq, eq_self, reduceCtorEq]
   refine ⟨⟨hs.1, by omega⟩, by omega, hs, by omega, ?_⟩
   refine lcallW_eq _ _ _ (f85 _ _ _ _ _ (by have := hrow 4; omega)) ?_
   simp -implicitDefEqProofs (maxSteps := 4000000) (disch := omega) only [push_cast, c59, e, hlt, Nat.reduceAdd, Nat.reduceSub, Nat.reduceMul, Nat.reduceBEq, Int.reduceToNat, Int.reduceNeg, Int.reduceLE, Int.reduceLT, Int.reduceBEq, Int.reduceBNe, Int.reduceEq, eq_self, reduceCtorEq]
   have hm : mvR N O x q (b.getD i 0) = if (N.getD (b.getD i 0).toNat []).getD x.toNat 0 ∈ q.1.getD 4 [] then (q.1, false) else (q.1.set 4 (q.1.getD 4 [] ++ [(N.getD (b.getD i 0).toNat []).getD x.toNat 0]), q.2) := by
    simp only [mvR, outG, nxG, e]
    rfl
   rw [hst, hm]
   refine ⟨fun hin => ?_, fun hn => ?_⟩
   ·rw [if_pos hin]
    exact ⟨rfl, rfl, rfl, rfl, rfl, rfl, rfl, rfl, rfl, rfl, rfl, rfl, rfl, rfl, rfl, rfl, rfl⟩
   ·rw [if_neg hn]
    refine ⟨by have := hrow 4; omega, rfl, ?_⟩
    simp only [getD_setR, h16]
    simp
  ·simp -implicitDefEqProofs (maxSteps := 4000000) (disch := omega) only [push_cast, c59, e, hlt, Nat.reduceAdd, Nat.reduceSub, Nat.reduceMul, Nat.reduceBEq, Int.reduceToNat, Int.reduceNeg, Int.reduceLE, Int.reduceLT, Int.reduceBEq, Int.reduceBNe, Int.reduceEq, eq_self, reduceCtorEq]
   refine ⟨⟨hs.1, by omega⟩, by omega, hs, by omega, ?_⟩
   refine lcallW_eq _ _ _ (f85 _ _ _ _ _ (by have := hrow 5; omega)) ?_
   simp -implicitDefEqProofs (maxSteps := 4000000) (disch := omega) only [push_cast, c59, e, hlt, Nat.reduceAdd, Nat.reduceSub, Nat.reduceMul, Nat.reduceBEq, Int.reduceToNat, Int.reduceNeg, Int.reduceLE, Int.reduceLT, Int.reduceBEq, Int.reduceBNe, Int.reduceEq, eq_self, reduceCtorEq]
   have hm : mvR N O x q (b.getD i 0) = if (N.getD (b.getD i 0).toNat []).getD x.toNat 0 ∈ q.1.getD 5 [] then (q.1, false) else (q.1.set 5 (q.1.getD 5 [] ++ [(N.getD (b.getD i 0).toNat []).getD x.toNat 0]), q.2) := by
    simp only [mvR, outG, nxG, e]
    rfl
   rw [hst, hm]
   refine ⟨fun hin => ?_, fun hn => ?_⟩
   ·rw [if_pos hin]
    exact ⟨rfl, rfl, rfl, rfl, rfl, rfl, rfl, rfl, rfl, rfl, rfl, rfl, rfl, rfl, rfl, rfl, rfl⟩
   ·rw [if_neg hn]
    refine ⟨by have := hrow 5; omega, rfl, ?_⟩
    simp only [getD_setR, h16]
    simp
  ·simp -implicitDefEqProofs (maxSteps := 4000000) (disch := omega) only [push_cast, c59, e, hlt, Nat.reduceAdd, Nat.reduceSub, Nat.reduceMul, Nat.reduceBEq, Int.reduceToNat, Int.reduceNeg, Int.reduceLE, Int.reduceLT, Int.reduceBEq, Int.reduceBNe, Int.reduceEq, eq_self, reduceCtorEq]
   refine ⟨⟨hs.1, by omega⟩, by omega, hs, by omega, ?_⟩
   refine lcallW_eq _ _ _ (f85 _ _ _ _ _ (by have := hrow 6; omega)) ?_
   simp -implicitDefEqProofs (maxSteps := 4000000) (disch := omega) only [push_cast, c59, e, hlt, Nat.reduceAdd, Nat.reduceSub, Nat.reduceMul, Nat.reduceBEq, Int.reduceToNat, Int.reduceNeg, Int.reduceLE, Int.reduceLT, Int.reduceBEq, Int.reduceBNe, Int.reduceEq, eq_self, reduceCtorEq]
   have hm : mvR N O x q (b.getD i 0) = if (N.getD (b.getD i 0).toNat []).getD x.toNat 0 ∈ q.1.getD 6 [] then (q.1, false) else (q.1.set 6 (q.1.getD 6 [] ++ [(N.getD (b.getD i 0).toNat []).getD x.toNat 0]), q.2) := by
    simp only [mvR, outG, nxG, e]
    rfl
   rw [hst, hm]
   refine ⟨fun hin => ?_, fun hn => ?_⟩
   ·rw [if_pos hin]
    exact ⟨rfl, rfl, rfl, rfl, rfl, rfl, rfl, rfl, rfl, rfl, rfl, rfl, rfl, rfl, rfl, rfl, rfl⟩
   ·rw [if_neg hn]
    refine ⟨by have := hrow 6; omega, rfl, ?_⟩
    simp only [getD_setR, h16]
    simp
  ·simp -implicitDefEqProofs (maxSteps := 4000000) (disch := omega) only [push_cast, c59, e, hlt, Nat.reduceAdd, Nat.reduceSub, Nat.reduceMul, Nat.reduceBEq, Int.reduceToNat, Int.reduceNeg, Int.reduceLE, Int.reduceLT, Int.reduceBEq, Int.reduceBNe, Int.reduceEq, eq_self, reduceCtorEq]
   refine ⟨⟨hs.1, by omega⟩, by omega, hs, by omega, ?_⟩
   refine lcallW_eq _ _ _ (f85 _ _ _ _ _ (by have := hrow 7; omega)) ?_
   simp -implicitDefEqProofs (maxSteps := 4000000) (disch := omega) only [push_cast, c59, e, hlt, Nat.reduceAdd, Nat.reduceSub, Nat.reduceMul, Nat.reduceBEq, Int.reduceToNat, Int.reduceNeg, Int.reduceLE, Int.reduceLT, Int.reduceBEq, Int.reduceBNe, Int.reduceEq, eq_self, reduceCtorEq]
   have hm : mvR N O x q (b.getD i 0) = if (N.getD (b.getD i 0).toNat []).getD x.toNat 0 ∈ q.1.getD 7 [] then (q.1, false) else (q.1.set 7 (q.1.getD 7 [] ++ [(N.getD (b.getD i 0).toNat []).getD x.toNat 0]), q.2) := by
    simp only [mvR, outG, nxG, e]
    rfl
   rw [hst, hm]
   refine ⟨fun hin => ?_, fun hn => ?_⟩
   ·rw [if_pos hin]
    exact ⟨rfl, rfl, rfl, rfl, rfl, rfl, rfl, rfl, rfl, rfl, rfl, rfl, rfl, rfl, rfl, rfl, rfl⟩
   ·rw [if_neg hn]
    refine ⟨by have := hrow 7; omega, rfl, ?_⟩
    simp only [getD_setR, h16]
    simp
  ·simp -implicitDefEqProofs (maxSteps := 4000000) (disch := omega) only [push_cast, c59, e, hlt, Nat.reduceAdd, Nat.reduceSub, Nat.reduceMul, Nat.reduceBEq, Int.reduceToNat, Int.reduceNeg, Int.reduceLE, Int.reduceLT, Int.reduceBEq, Int.reduceBNe, Int.reduceEq, eq_self, reduceCtorEq]
   refine ⟨⟨hs.1, by omega⟩, by omega, hs, by omega, ?_⟩
   refine lcallW_eq _ _ _ (f85 _ _ _ _ _ (by have := hrow 8; omega)) ?_
   simp -implicitDefEqProofs (maxSteps := 4000000) (disch := omega) only [push_cast, c59, e, hlt, Nat.reduceAdd, Nat.reduceSub, Nat.reduceMul, Nat.reduceBEq, Int.reduceToNat, Int.reduceNeg, Int.reduceLE, Int.reduceLT, Int.reduceBEq, Int.reduceBNe, Int.reduceEq, eq_self, reduceCtorEq]
   have hm : mvR N O x q (b.getD i 0) = if (N.getD (b.getD i 0).toNat []).getD x.toNat 0 ∈ q.1.getD 8 [] then (q.1, false) else (q.1.set 8 (q.1.getD 8 [] ++ [(N.getD (b.getD i 0).toNat []).getD x.toNat 0]), q.2) := by
    simp only [mvR, outG, nxG, e]
    rfl
   rw [hst, hm]
   refine ⟨fun hin => ?_, fun hn => ?_⟩
   ·rw [if_pos hin]
    exact ⟨rfl, rfl, rfl, rfl, rfl, rfl, rfl, rfl, rfl, rfl, rfl, rfl, rfl, rfl, rfl, rfl, rfl⟩
   ·rw [if_neg hn]
    refine ⟨by have := hrow 8; omega, rfl, ?_⟩
    simp only [getD_setR, h16]
    simp
  ·simp -implicitDefEqProofs (maxSteps := 4000000) (disch := omega) only [push_cast, c59, e, hlt, Nat.reduceAdd, Nat.reduceSub, Nat.reduceMul, Nat.reduceBEq, Int.reduceToNat, Int.reduceNeg, Int.reduceLE, Int.reduceLT, Int.reduceBEq, Int.reduceBNe, Int.reduceEq, eq_self, reduceCtorEq]
   refine ⟨⟨hs.1, by omega⟩, by omega, hs, by omega, ?_⟩
   refine lcallW_eq _ _ _ (f85 _ _ _ _ _ (by have := hrow 9; omega)) ?_
   simp -implicitDefEqProofs (maxSteps := 4000000) (disch := omega) only [push_cast, c59, e, hlt, Nat.reduceAdd, Nat.reduceSub, Nat.reduceMul, Nat.reduceBEq, Int.reduceToNat, Int.reduceNeg, Int.reduceLE, Int.reduceLT, Int.reduceBEq, Int.reduceBNe, Int.reduceEq, eq_self, reduceCtorEq]
   have hm : mvR N O x q (b.getD i 0) = if (N.getD (b.getD i 0).toNat []).getD x.toNat 0 ∈ q.1.getD 9 [] then (q.1, false) else (q.1.set 9 (q.1.getD 9 [] ++ [(N.getD (b.getD i 0).toNat []).getD x.toNat 0]), q.2) := by
    simp only [mvR, outG, nxG, e]
    rfl
   rw [hst, hm]
   refine ⟨fun hin => ?_, fun hn => ?_⟩
   ·rw [if_pos hin]
    exact ⟨rfl, rfl, rfl, rfl, rfl, rfl, rfl, rfl, rfl, rfl, rfl, rfl, rfl, rfl, rfl, rfl, rfl⟩
   ·rw [if_neg hn]
    refine ⟨by have := hrow 9; omega, rfl, ?_⟩
    simp only [getD_setR, h16]
    simp
  ·simp -implicitDefEqProofs (maxSteps := 4000000) (disch := omega) only [push_cast, c59, e, hlt, Nat.reduceAdd, Nat.reduceSub, Nat.reduceMul, Nat.reduceBEq, Int.reduceToNat, Int.reduceNeg, Int.reduceLE, Int.reduceLT, Int.reduceBEq, Int.reduceBNe, Int.reduceEq, eq_self, reduceCtorEq]
   refine ⟨⟨hs.1, by omega⟩, by omega, hs, by omega, ?_⟩
   refine lcallW_eq _ _ _ (f85 _ _ _ _ _ (by have := hrow 10; omega)) ?_
   simp -implicitDefEqProofs (maxSteps := 4000000) (disch := omega) only [push_cast, c59, e, hlt, Nat.reduceAdd, Nat.reduceSub, Nat.reduceMul, Nat.reduceBEq, Int.reduceToNat, Int.reduceNeg, Int.reduceLE, Int.reduceLT, Int.reduceBEq, Int.reduceBNe, Int.reduceEq, eq_self, reduceCtorEq]
   have hm : mvR N O x q (b.getD i 0) = if (N.getD (b.getD i 0).toNat []).getD x.toNat 0 ∈ q.1.getD 10 [] then (q.1, false) else (q.1.set 10 (q.1.getD 10 [] ++ [(N.getD (b.getD i 0).toNat []).getD x.toNat 0]), q.2) := by
    simp only [mvR, outG, nxG, e]
    rfl
   rw [hst, hm]
   refine ⟨fun hin => ?_, fun hn => ?_⟩
   ·rw [if_pos hin]
    exact ⟨rfl, rfl, rfl, rfl, rfl, rfl, rfl, rfl, rfl, rfl, rfl, rfl, rfl, rfl, rfl, rfl, rfl⟩
   ·rw [if_neg hn]
    refine ⟨by have := hrow 10; omega, rfl, ?_⟩
    simp only [getD_setR, h16]
    simp
  ·simp -implicitDefEqProofs (maxSteps := 4000000) (disch := omega) only [push_cast, c59, e, hlt, Nat.reduceAdd, Nat.reduceSub, Nat.reduceMul, Nat.reduceBEq, Int.reduceToNat, Int.reduceNeg, Int.reduceLE, Int.reduceLT, Int.reduceBEq, Int.reduceBNe, Int.reduceEq, eq_self, reduceCtorEq]
   refine ⟨⟨hs.1, by omega⟩, by omega, hs, by omega, ?_⟩
   refine lcallW_eq _ _ _ (f85 _ _ _ _ _ (by have := hrow 11; omega)) ?_
   simp -implicitDefEqProofs (maxSteps := 4000000) (disch := omega) only [push_cast, c59, e, hlt, Nat.reduceAdd, Nat.reduceSub, Nat.reduceMul, Nat.reduceBEq, Int.reduceToNat, Int.reduceNeg, Int.reduceLE, Int.reduceLT, Int.reduceBEq, Int.reduceBNe, Int.reduceEq, eq_self, reduceCtorEq]
   have hm : mvR N O x q (b.getD i 0) = if (N.getD (b.getD i 0).toNat []).getD x.toNat 0 ∈ q.1.getD 11 [] then (q.1, false) else (q.1.set 11 (q.1.getD 11 [] ++ [(N.getD (b.getD i 0).toNat []).getD x.toNat 0]), q.2) := by
    simp only [mvR, outG, nxG, e]
    rfl
   rw [hst, hm]
   refine ⟨fun hin => ?_, fun hn => ?_⟩
   ·rw [if_pos hin]
    exact ⟨rfl, rfl, rfl, rfl, rfl, rfl, rfl, rfl, rfl, rfl, rfl, rfl, rfl, rfl, rfl, rfl, rfl⟩
   ·rw [if_neg hn]
    refine ⟨by have := hrow 11; omega, rfl, ?_⟩
    simp only [getD_setR, h16]
    simp
  ·simp -implicitDefEqProofs (maxSteps := 4000000) (disch := omega) only [push_cast, c59, e, hlt, Nat.reduceAdd, Nat.reduceSub, Nat.reduceMul, Nat.reduceBEq, Int.reduceToNat, Int.reduceNeg, Int.reduceLE, Int.reduceLT, Int.reduceBEq, Int.reduceBNe, Int.reduceEq, eq_self, reduceCtorEq]
   refine ⟨⟨hs.1, by omega⟩, by omega, hs, by omega, ?_⟩
   refine lcallW_eq _ _ _ (f85 _ _ _ _ _ (by have := hrow 12; omega)) ?_
   simp -implicitDefEqProofs (maxSteps := 4000000) (disch := omega) only [push_cast, c59, e, hlt, Nat.reduceAdd, Nat.reduceSub, Nat.reduceMul, Nat.reduceBEq, Int.reduceToNat, Int.reduceNeg, Int.reduceLE, Int.reduceLT, Int.reduceBEq, Int.reduceBNe, Int.reduceEq, eq_self, reduceCtorEq]
   have hm : mvR N O x q (b.getD i 0) = if (N.getD (b.getD i 0).toNat []).getD x.toNat 0 ∈ q.1.getD 12 [] then (q.1, false) else (q.1.set 12 (q.1.getD 12 [] ++ [(N.getD (b.getD i 0).toNat []).getD x.toNat 0]), q.2) := by
    simp only [mvR, outG, nxG, e]
    rfl
   rw [hst, hm]
   refine ⟨fun hin => ?_, fun hn => ?_⟩
   ·rw [if_pos hin]
    exact ⟨rfl, rfl, rfl, rfl, rfl, rfl, rfl, rfl, rfl, rfl, rfl, rfl, rfl, rfl, rfl, rfl, rfl⟩
   ·rw [if_neg hn]
    refine ⟨by have := hrow 12; omega, rfl, ?_⟩
    simp only [getD_setR, h16]
    simp
  ·simp -implicitDefEqProofs (maxSteps := 4000000) (disch := omega) only [push_cast, c59, e, hlt, Nat.reduceAdd, Nat.reduceSub, Nat.reduceMul, Nat.reduceBEq, Int.reduceToNat, Int.reduceNeg, Int.reduceLE, Int.reduceLT, Int.reduceBEq, Int.reduceBNe, Int.reduceEq, eq_self, reduceCtorEq]
   refine ⟨⟨hs.1, by omega⟩, by omega, hs, by omega, ?_⟩
   refine lcallW_eq _ _ _ (f85 _ _ _ _ _ (by have := hrow 13; omega)) ?_
   simp -implicitDefEqProofs (maxSteps := 4000000) (disch := omega) only [push_cast, c59, e, hlt, Nat.reduceAdd, Nat.reduceSub, Nat.reduceMul, Nat.reduceBEq, Int.reduceToNat, Int.reduceNeg, Int.reduceLE, Int.reduceLT, Int.reduceBEq, Int.reduceBNe, Int.reduceEq, eq_self, reduceCtorEq]
   have hm : mvR N O x q (b.getD i 0) = if (N.getD (b.getD i 0).toNat []).getD x.toNat 0 ∈ q.1.getD 13 [] then (q.1, false) else (q.1.set 13 (q.1.getD 13 [] ++ [(N.getD (b.getD i 0).toNat []).getD x.toNat 0]), q.2) := by
    simp only [mvR, outG, nxG, e]
    rfl
   rw [hst, hm]
   refine ⟨fun hin => ?_, fun hn => ?_⟩
   ·rw [if_pos hin]
    exact ⟨rfl, rfl, rfl, rfl, rfl, rfl, rfl, rfl, rfl, rfl, rfl, rfl, rfl, rfl, rfl, rfl, rfl⟩
   ·rw [if_neg hn]
    refine ⟨by have := hrow 13; omega, rfl, ?_⟩
    simp only [getD_setR, h16]
    simp
  ·simp -implicitDefEqProofs (maxSteps := 4000000) (disch := omega) only [push_cast, c59, e, hlt, Nat.reduceAdd, Nat.reduceSub, Nat.reduceMul, Nat.reduceBEq, Int.reduceToNat, Int.reduceNeg, Int.reduceLE, Int.reduceLT, Int.reduceBEq, Int.reduceBNe, Int.reduceEq, eq_self, reduceCtorEq]
   refine ⟨⟨hs.1, by omega⟩, by omega, hs, by omega, ?_⟩
   refine lcallW_eq _ _ _ (f85 _ _ _ _ _ (by have := hrow 14; omega)) ?_
   simp -implicitDefEqProofs (maxSteps := 4000000) (disch := omega) only [push_cast, c59, e, hlt, Nat.reduceAdd, Nat.reduceSub, Nat.reduceMul, Nat.reduceBEq, Int.reduceToNat, Int.reduceNeg, Int.reduceLE, Int.reduceLT, Int.reduceBEq, Int.reduceBNe, Int.reduceEq, eq_self, reduceCtorEq]
   have hm : mvR N O x q (b.getD i 0) = if (N.getD (b.getD i 0).toNat []).getD x.toNat 0 ∈ q.1.getD 14 [] then (q.1, false) else (q.1.set 14 (q.1.getD 14 [] ++ [(N.getD (b.getD i 0).toNat []).getD x.toNat 0]), q.2) := by
    simp only [mvR, outG, nxG, e]
    rfl
   rw [hst, hm]
   refine ⟨fun hin => ?_, fun hn => ?_⟩
   ·rw [if_pos hin]
    exact ⟨rfl, rfl, rfl, rfl, rfl, rfl, rfl, rfl, rfl, rfl, rfl, rfl, rfl, rfl, rfl, rfl, rfl⟩
   ·rw [if_neg hn]
    refine ⟨by have := hrow 14; omega, rfl, ?_⟩
    simp only [getD_setR, h16]
    simp
  ·simp -implicitDefEqProofs (maxSteps := 4000000) (disch := omega) only [push_cast, c59, e, hlt, Nat.reduceAdd, Nat.reduceSub, Nat.reduceMul, Nat.reduceBEq, Int.reduceToNat, Int.reduceNeg, Int.reduceLE, Int.reduceLT, Int.reduceBEq, Int.reduceBNe, Int.reduceEq, eq_self, reduceCtorEq]
   refine ⟨⟨hs.1, by omega⟩, by omega, hs, by omega, ?_⟩
   refine lcallW_eq _ _ _ (f85 _ _ _ _ _ (by have := hrow 15; omega)) ?_
   simp -implicitDefEqProofs (maxSteps := 4000000) (disch := omega) only [push_cast, c59, e, hlt, Nat.reduceAdd, Nat.reduceSub, Nat.reduceMul, Nat.reduceBEq, Int.reduceToNat, Int.reduceNeg, Int.reduceLE, Int.reduceLT, Int.reduceBEq, Int.reduceBNe, Int.reduceEq, eq_self, reduceCtorEq]
   have hm : mvR N O x q (b.getD i 0) = if (N.getD (b.getD i 0).toNat []).getD x.toNat 0 ∈ q.1.getD 15 [] then (q.1, false) else (q.1.set 15 (q.1.getD 15 [] ++ [(N.getD (b.getD i 0).toNat []).getD x.toNat 0]), q.2) := by
    simp only [mvR, outG, nxG, e]
    rfl
   rw [hst, hm]
   refine ⟨fun hin => ?_, fun hn => ?_⟩
   ·rw [if_pos hin]
    exact ⟨rfl, rfl, rfl, rfl, rfl, rfl, rfl, rfl, rfl, rfl, rfl, rfl, rfl, rfl, rfl, rfl, rfl⟩
   ·rw [if_neg hn]
    refine ⟨by have := hrow 15; omega, rfl, ?_⟩
    simp only [getD_setR, h16]
    simp
 ·obtain rfl : i = b.length := by omega
  simp -implicitDefEqProofs (maxSteps := 4000000) (disch := omega) only [push_cast, c59, Nat.reduceAdd, Nat.reduceSub, Nat.reduceMul, Nat.reduceBEq, Int.reduceToNat, Int.reduceNeg, Int.reduceLE, Int.reduceLT, Int.reduceBEq, Int.reduceBNe, Int.reduceEq, eq_self, reduceCtorEq]
  refine ⟨fun h => absurd h hlt, fun _ => ?_⟩
  generalize hR : q.1 = R at *
  generalize hW : q.2 = W at *
  refine awp_loopW (tyP_ok _) c59 2000 (fun n g st => ∃ i : Nat, g = (false, 0) ∧ i ≤ 16 ∧ n = 16 - i ∧ st = ⟨69, [(6, .pay (.rows []) true), (7, .bool false), (9, .bool W), (14, .own 0), (53, .agg (jag i)), (54, .int .i64 i)], .arr (.rows (outB (R.take i))) ⟨27, true⟩ :: ars 3 R i⟩) 16 (by kernel_rfl) (Weak.gc _ [6, 7, 9, 14, 53, 54]) ?_ ?_
  ·refine ⟨0, rfl, by omega, rfl, ?_⟩
   simp -implicitDefEqProofs (maxSteps := 4000000) (disch := omega) only [push_cast, c59, Nat.reduceAdd, Nat.reduceSub, Nat.reduceMul, Nat.reduceBEq, Int.reduceToNat, Int.reduceNeg, Int.reduceLE, Int.reduceLT, Int.reduceBEq, Int.reduceBNe, Int.reduceEq, eq_self, reduceCtorEq]
   rfl
  have hob : ∀ i, (outB (R.take i)).length ≤ 16 := fun i => by
   rw [outB, List.length_map]
   refine Nat.le_trans (List.length_filter_le _ _) ?_
   rw [List.length_take]; omega
  rintro n g st ⟨i, rfl, hi16, rfl, rfl⟩
  obtain rfl | rfl | rfl | rfl | rfl | rfl | rfl | rfl | rfl | rfl | rfl | rfl | rfl | rfl | rfl | rfl | rfl : i = 0 ∨ i = 1 ∨ i = 2 ∨ i = 3 ∨ i = 4 ∨ i = 5 ∨ i = 6 ∨ i = 7 ∨ i = 8 ∨ i = 9 ∨ i = 10 ∨ i = 11 ∨ i = 12 ∨ i = 13 ∨ i = 14 ∨ i = 15 ∨ i = 16 := by omega
  ·simp -implicitDefEqProofs (maxSteps := 4000000) (disch := omega) only [push_cast, c59, Nat.reduceAdd, Nat.reduceSub, Nat.reduceMul, Nat.reduceBEq, Int.reduceToNat, Int.reduceNeg, Int.reduceLE, Int.reduceLT, Int.reduceBEq, Int.reduceBNe, Int.reduceEq, eq_self, reduceCtorEq]
   have hsn := outB_snoc (R := R) (i := 0) (by omega)
   refine ⟨fun h0 => ?_, fun h0 => ?_⟩
   ·refine lcallW_eq _ _ _ (f26 _ _ _ _ (by have := hrow 0; omega)) ?_
    simp -implicitDefEqProofs (maxSteps := 4000000) (disch := omega) only [push_cast, c59, Nat.reduceAdd, Nat.reduceSub, Nat.reduceMul, Nat.reduceBEq, Int.reduceToNat, Int.reduceNeg, Int.reduceLE, Int.reduceLT, Int.reduceBEq, Int.reduceBNe, Int.reduceEq, eq_self, reduceCtorEq]
    rw [if_pos h0] at hsn
    refine ⟨by have := hob 0; first | omega | (rw [List.take_zero] at this; omega), 15, _, by omega, (Weak.junkAt _ 53 0).trans (Weak.gc _ [6, 7, 9, 14, 53, 54]), 1, by omega, by omega, ?_⟩
    simp -implicitDefEqProofs (maxSteps := 4000000) (disch := omega) only [push_cast, c59, Nat.reduceAdd, Nat.reduceSub, Nat.reduceMul, Nat.reduceBEq, Int.reduceToNat, Int.reduceNeg, Int.reduceLE, Int.reduceLT, Int.reduceBEq, Int.reduceBNe, Int.reduceEq, eq_self, reduceCtorEq]
    exact ⟨rfl, hsn.symm⟩
   ·rw [if_neg (by omega), List.append_nil] at hsn
    refine ⟨15, _, by omega, (Weak.junkAt _ 53 0).trans (Weak.gc _ [6, 7, 9, 14, 53, 54]), 1, by omega, by omega, ?_⟩
    simp -implicitDefEqProofs (maxSteps := 4000000) (disch := omega) only [push_cast, c59, Nat.reduceAdd, Nat.reduceSub, Nat.reduceMul, Nat.reduceBEq, Int.reduceToNat, Int.reduceNeg, Int.reduceLE, Int.reduceLT, Int.reduceBEq, Int.reduceBNe, Int.reduceEq, eq_self, reduceCtorEq]
    exact ⟨rfl, hsn.symm⟩
  ·simp -implicitDefEqProofs (maxSteps := 4000000) (disch := omega) only [push_cast, c59, Nat.reduceAdd, Nat.reduceSub, Nat.reduceMul, Nat.reduceBEq, Int.reduceToNat, Int.reduceNeg, Int.reduceLE, Int.reduceLT, Int.reduceBEq, Int.reduceBNe, Int.reduceEq, eq_self, reduceCtorEq]
   have hsn := outB_snoc (R := R) (i := 1) (by omega)
   refine ⟨fun h0 => ?_, fun h0 => ?_⟩
   ·refine lcallW_eq _ _ _ (f26 _ _ _ _ (by have := hrow 1; omega)) ?_
    simp -implicitDefEqProofs (maxSteps := 4000000) (disch := omega) only [push_cast, c59, Nat.reduceAdd, Nat.reduceSub, Nat.reduceMul, Nat.reduceBEq, Int.reduceToNat, Int.reduceNeg, Int.reduceLE, Int.reduceLT, Int.reduceBEq, Int.reduceBNe, Int.reduceEq, eq_self, reduceCtorEq]
    rw [if_pos h0] at hsn
    refine ⟨by have := hob 1; first | omega | (rw [List.take_zero] at this; omega), 14, _, by omega, (Weak.junkAt _ 53 1).trans (Weak.gc _ [6, 7, 9, 14, 53, 54]), 2, by omega, by omega, ?_⟩
    simp -implicitDefEqProofs (maxSteps := 4000000) (disch := omega) only [push_cast, c59, Nat.reduceAdd, Nat.reduceSub, Nat.reduceMul, Nat.reduceBEq, Int.reduceToNat, Int.reduceNeg, Int.reduceLE, Int.reduceLT, Int.reduceBEq, Int.reduceBNe, Int.reduceEq, eq_self, reduceCtorEq]
    exact ⟨rfl, hsn.symm⟩
   ·rw [if_neg (by omega), List.append_nil] at hsn
    refine ⟨14, _, by omega, (Weak.junkAt _ 53 1).trans (Weak.gc _ [6, 7, 9, 14, 53, 54]), 2, by omega, by omega, ?_⟩
    simp -implicitDefEqProofs (maxSteps := 4000000) (disch := omega) only [push_cast, c59, Nat.reduceAdd, Nat.reduceSub, Nat.reduceMul, Nat.reduceBEq, Int.reduceToNat, Int.reduceNeg, Int.reduceLE, Int.reduceLT, Int.reduceBEq, Int.reduceBNe, Int.reduceEq, eq_self, reduceCtorEq]
    exact ⟨rfl, hsn.symm⟩
  ·simp -implicitDefEqProofs (maxSteps := 4000000) (disch := omega) only [push_cast, c59, Nat.reduceAdd, Nat.reduceSub, Nat.reduceMul, Nat.reduceBEq, Int.reduceToNat, Int.reduceNeg, Int.reduceLE, Int.reduceLT, Int.reduceBEq, Int.reduceBNe, Int.reduceEq, eq_self, reduceCtorEq]
   have hsn := outB_snoc (R := R) (i := 2) (by omega)
   refine ⟨fun h0 => ?_, fun h0 => ?_⟩
   ·refine lcallW_eq _ _ _ (f26 _ _ _ _ (by have := hrow 2; omega)) ?_
    simp -implicitDefEqProofs (maxSteps := 4000000) (disch := omega) only [push_cast, c59, Nat.reduceAdd, Nat.reduceSub, Nat.reduceMul, Nat.reduceBEq, Int.reduceToNat, Int.reduceNeg, Int.reduceLE, Int.reduceLT, Int.reduceBEq, Int.reduceBNe, Int.reduceEq, eq_self, reduceCtorEq]
    rw [if_pos h0] at hsn
    refine ⟨by have := hob 2; first | omega | (rw [List.take_zero] at this; omega), 13, _, by omega, (Weak.junkAt _ 53 2).trans (Weak.gc _ [6, 7, 9, 14, 53, 54]), 3, by omega, by omega, ?_⟩
    simp -implicitDefEqProofs (maxSteps := 4000000) (disch := omega) only [push_cast, c59, Nat.reduceAdd, Nat.reduceSub, Nat.reduceMul, Nat.reduceBEq, Int.reduceToNat, Int.reduceNeg, Int.reduceLE, Int.reduceLT, Int.reduceBEq, Int.reduceBNe, Int.reduceEq, eq_self, reduceCtorEq]
    exact ⟨rfl, hsn.symm⟩
   ·rw [if_neg (by omega), List.append_nil] at hsn
    refine ⟨13, _, by omega, (Weak.junkAt _ 53 2).trans (Weak.gc _ [6, 7, 9, 14, 53, 54]), 3, by omega, by omega, ?_⟩
    simp -implicitDefEqProofs (maxSteps := 4000000) (disch := omega) only [push_cast, c59, Nat.reduceAdd, Nat.reduceSub, Nat.reduceMul, Nat.reduceBEq, Int.reduceToNat, Int.reduceNeg, Int.reduceLE, Int.reduceLT, Int.reduceBEq, Int.reduceBNe, Int.reduceEq, eq_self, reduceCtorEq]
    exact ⟨rfl, hsn.symm⟩
  ·simp -implicitDefEqProofs (maxSteps := 4000000) (disch := omega) only [push_cast, c59, Nat.reduceAdd, Nat.reduceSub, Nat.reduceMul, Nat.reduceBEq, Int.reduceToNat, Int.reduceNeg, Int.reduceLE, Int.reduceLT, Int.reduceBEq, Int.reduceBNe, Int.reduceEq, eq_self, reduceCtorEq]
   have hsn := outB_snoc (R := R) (i := 3) (by omega)
   refine ⟨fun h0 => ?_, fun h0 => ?_⟩
   ·refine lcallW_eq _ _ _ (f26 _ _ _ _ (by have := hrow 3; omega)) ?_
    simp -implicitDefEqProofs (maxSteps := 4000000) (disch := omega) only [push_cast, c59, Nat.reduceAdd, Nat.reduceSub, Nat.reduceMul, Nat.reduceBEq, Int.reduceToNat, Int.reduceNeg, Int.reduceLE, Int.reduceLT, Int.reduceBEq, Int.reduceBNe, Int.reduceEq, eq_self, reduceCtorEq]
    rw [if_pos h0] at hsn
    refine ⟨by have := hob 3; first | omega | (rw [List.take_zero] at this; omega), 12, _, by omega, (Weak.junkAt _ 53 3).trans (Weak.gc _ [6, 7, 9, 14, 53, 54]), 4, by omega, by omega, ?_⟩
    simp -implicitDefEqProofs (maxSteps := 4000000) (disch := omega) only [push_cast, c59, Nat.reduceAdd, Nat.reduceSub, Nat.reduceMul, Nat.reduceBEq, Int.reduceToNat, Int.reduceNeg, Int.reduceLE, Int.reduceLT, Int.reduceBEq, Int.reduceBNe, Int.reduceEq, eq_self, reduceCtorEq]
    exact ⟨rfl, hsn.symm⟩
   ·rw [if_neg (by omega), List.append_nil] at hsn
    refine ⟨12, _, by omega, (Weak.junkAt _ 53 3).trans (Weak.gc _ [6, 7, 9, 14, 53, 54]), 4, by omega, by omega, ?_⟩
    simp -implicitDefEqProofs (maxSteps := 4000000) (disch := omega) only [push_cast, c59, Nat.reduceAdd, Nat.reduceSub, Nat.reduceMul, Nat.reduceBEq, Int.reduceToNat, Int.reduceNeg, Int.reduceLE, Int.reduceLT, Int.reduceBEq, Int.reduceBNe, Int.reduceEq, eq_self, reduceCtorEq]
    exact ⟨rfl, hsn.symm⟩
  ·simp -implicitDefEqProofs (maxSteps := 4000000) (disch := omega) only [push_cast, c59, Nat.reduceAdd, Nat.reduceSub, Nat.reduceMul, Nat.reduceBEq, Int.reduceToNat, Int.reduceNeg, Int.reduceLE, Int.reduceLT, Int.reduceBEq, Int.reduceBNe, Int.reduceEq, eq_self, reduceCtorEq]
   have hsn := outB_snoc (R := R) (i := 4) (by omega)
   refine ⟨fun h0 => ?_, fun h0 => ?_⟩
   ·refine lcallW_eq _ _ _ (f26 _ _ _ _ (by have := hrow 4; omega)) ?_
    simp -implicitDefEqProofs (maxSteps := 4000000) (disch := omega) only [push_cast, c59, Nat.reduceAdd, Nat.reduceSub, Nat.reduceMul, Nat.reduceBEq, Int.reduceToNat, Int.reduceNeg, Int.reduceLE, Int.reduceLT, Int.reduceBEq, Int.reduceBNe, Int.reduceEq, eq_self, reduceCtorEq]
    rw [if_pos h0] at hsn
    refine ⟨by have := hob 4; first | omega | (rw [List.take_zero] at this; omega), 11, _, by omega, (Weak.junkAt _ 53 4).trans (Weak.gc _ [6, 7, 9, 14, 53, 54]), 5, by omega, by omega, ?_⟩
    simp -implicitDefEqProofs (maxSteps := 4000000) (disch := omega) only [push_cast, c59, Nat.reduceAdd, Nat.reduceSub, Nat.reduceMul, Nat.reduceBEq, Int.reduceToNat, Int.reduceNeg, Int.reduceLE, Int.reduceLT, Int.reduceBEq, Int.reduceBNe, Int.reduceEq, eq_self, reduceCtorEq]
    exact ⟨rfl, hsn.symm⟩
   ·rw [if_neg (by omega), List.append_nil] at hsn
    refine ⟨11, _, by omega, (Weak.junkAt _ 53 4).trans (Weak.gc _ [6, 7, 9, 14, 53, 54]), 5, by omega, by omega, ?_⟩
    simp -implicitDefEqProofs (maxSteps := 4000000) (disch := omega) only [push_cast, c59, Nat.reduceAdd, Nat.reduceSub, Nat.reduceMul, Nat.reduceBEq, Int.reduceToNat, Int.reduceNeg, Int.reduceLE, Int.reduceLT, Int.reduceBEq, Int.reduceBNe, Int.reduceEq, eq_self, reduceCtorEq]
    exact ⟨rfl, hsn.symm⟩
  ·simp -implicitDefEqProofs (maxSteps := 4000000) (disch := omega) only [push_cast, c59, Nat.reduceAdd, Nat.reduceSub, Nat.reduceMul, Nat.reduceBEq, Int.reduceToNat, Int.reduceNeg, Int.reduceLE, Int.reduceLT, Int.reduceBEq, Int.reduceBNe, Int.reduceEq, eq_self, reduceCtorEq]
   have hsn := outB_snoc (R := R) (i := 5) (by omega)
   refine ⟨fun h0 => ?_, fun h0 => ?_⟩
   ·refine lcallW_eq _ _ _ (f26 _ _ _ _ (by have := hrow 5; omega)) ?_
    simp -implicitDefEqProofs (maxSteps := 4000000) (disch := omega) only [push_cast, c59, Nat.reduceAdd, Nat.reduceSub, Nat.reduceMul, Nat.reduceBEq, Int.reduceToNat, Int.reduceNeg, Int.reduceLE, Int.reduceLT, Int.reduceBEq, Int.reduceBNe, Int.reduceEq, eq_self, reduceCtorEq]
    rw [if_pos h0] at hsn
    refine ⟨by have := hob 5; first | omega | (rw [List.take_zero] at this; omega), 10, _, by omega, (Weak.junkAt _ 53 5).trans (Weak.gc _ [6, 7, 9, 14, 53, 54]), 6, by omega, by omega, ?_⟩
    simp -implicitDefEqProofs (maxSteps := 4000000) (disch := omega) only [push_cast, c59, Nat.reduceAdd, Nat.reduceSub, Nat.reduceMul, Nat.reduceBEq, Int.reduceToNat, Int.reduceNeg, Int.reduceLE, Int.reduceLT, Int.reduceBEq, Int.reduceBNe, Int.reduceEq, eq_self, reduceCtorEq]
    exact ⟨rfl, hsn.symm⟩
   ·rw [if_neg (by omega), List.append_nil] at hsn
    refine ⟨10, _, by omega, (Weak.junkAt _ 53 5).trans (Weak.gc _ [6, 7, 9, 14, 53, 54]), 6, by omega, by omega, ?_⟩
    simp -implicitDefEqProofs (maxSteps := 4000000) (disch := omega) only [push_cast, c59, Nat.reduceAdd, Nat.reduceSub, Nat.reduceMul, Nat.reduceBEq, Int.reduceToNat, Int.reduceNeg, Int.reduceLE, Int.reduceLT, Int.reduceBEq, Int.reduceBNe, Int.reduceEq, eq_self, reduceCtorEq]
    exact ⟨rfl, hsn.symm⟩
  ·simp -implicitDefEqProofs (maxSteps := 4000000) (disch := omega) only [push_cast, c59, Nat.reduceAdd, Nat.reduceSub, Nat.reduceMul, Nat.reduceBEq, Int.reduceToNat, Int.reduceNeg, Int.reduceLE, Int.reduceLT, Int.reduceBEq, Int.reduceBNe, Int.reduceEq, eq_self, reduceCtorEq]
   have hsn := outB_snoc (R := R) (i := 6) (by omega)
   refine ⟨fun h0 => ?_, fun h0 => ?_⟩
   ·refine lcallW_eq _ _ _ (f26 _ _ _ _ (by have := hrow 6; omega)) ?_
    simp -implicitDefEqProofs (maxSteps := 4000000) (disch := omega) only [push_cast, c59, Nat.reduceAdd, Nat.reduceSub, Nat.reduceMul, Nat.reduceBEq, Int.reduceToNat, Int.reduceNeg, Int.reduceLE, Int.reduceLT, Int.reduceBEq, Int.reduceBNe, Int.reduceEq, eq_self, reduceCtorEq]
    rw [if_pos h0] at hsn
    refine ⟨by have := hob 6; first | omega | (rw [List.take_zero] at this; omega), 9, _, by omega, (Weak.junkAt _ 53 6).trans (Weak.gc _ [6, 7, 9, 14, 53, 54]), 7, by omega, by omega, ?_⟩
    simp -implicitDefEqProofs (maxSteps := 4000000) (disch := omega) only [push_cast, c59, Nat.reduceAdd, Nat.reduceSub, Nat.reduceMul, Nat.reduceBEq, Int.reduceToNat, Int.reduceNeg, Int.reduceLE, Int.reduceLT, Int.reduceBEq, Int.reduceBNe, Int.reduceEq, eq_self, reduceCtorEq]
    exact ⟨rfl, hsn.symm⟩
   ·rw [if_neg (by omega), List.append_nil] at hsn
    refine ⟨9, _, by omega, (Weak.junkAt _ 53 6).trans (Weak.gc _ [6, 7, 9, 14, 53, 54]), 7, by omega, by omega, ?_⟩
    simp -implicitDefEqProofs (maxSteps := 4000000) (disch := omega) only [push_cast, c59, Nat.reduceAdd, Nat.reduceSub, Nat.reduceMul, Nat.reduceBEq, Int.reduceToNat, Int.reduceNeg, Int.reduceLE, Int.reduceLT, Int.reduceBEq, Int.reduceBNe, Int.reduceEq, eq_self, reduceCtorEq]
    exact ⟨rfl, hsn.symm⟩
  ·simp -implicitDefEqProofs (maxSteps := 4000000) (disch := omega) only [push_cast, c59, Nat.reduceAdd, Nat.reduceSub, Nat.reduceMul, Nat.reduceBEq, Int.reduceToNat, Int.reduceNeg, Int.reduceLE, Int.reduceLT, Int.reduceBEq, Int.reduceBNe, Int.reduceEq, eq_self, reduceCtorEq]
   have hsn := outB_snoc (R := R) (i := 7) (by omega)
   refine ⟨fun h0 => ?_, fun h0 => ?_⟩
   ·refine lcallW_eq _ _ _ (f26 _ _ _ _ (by have := hrow 7; omega)) ?_
    simp -implicitDefEqProofs (maxSteps := 4000000) (disch := omega) only [push_cast, c59, Nat.reduceAdd, Nat.reduceSub, Nat.reduceMul, Nat.reduceBEq, Int.reduceToNat, Int.reduceNeg, Int.reduceLE, Int.reduceLT, Int.reduceBEq, Int.reduceBNe, Int.reduceEq, eq_self, reduceCtorEq]
    rw [if_pos h0] at hsn
    refine ⟨by have := hob 7; first | omega | (rw [List.take_zero] at this; omega), 8, _, by omega, (Weak.junkAt _ 53 7).trans (Weak.gc _ [6, 7, 9, 14, 53, 54]), 8, by omega, by omega, ?_⟩
    simp -implicitDefEqProofs (maxSteps := 4000000) (disch := omega) only [push_cast, c59, Nat.reduceAdd, Nat.reduceSub, Nat.reduceMul, Nat.reduceBEq, Int.reduceToNat, Int.reduceNeg, Int.reduceLE, Int.reduceLT, Int.reduceBEq, Int.reduceBNe, Int.reduceEq, eq_self, reduceCtorEq]
    exact ⟨rfl, hsn.symm⟩
   ·rw [if_neg (by omega), List.append_nil] at hsn
    refine ⟨8, _, by omega, (Weak.junkAt _ 53 7).trans (Weak.gc _ [6, 7, 9, 14, 53, 54]), 8, by omega, by omega, ?_⟩
    simp -implicitDefEqProofs (maxSteps := 4000000) (disch := omega) only [push_cast, c59, Nat.reduceAdd, Nat.reduceSub, Nat.reduceMul, Nat.reduceBEq, Int.reduceToNat, Int.reduceNeg, Int.reduceLE, Int.reduceLT, Int.reduceBEq, Int.reduceBNe, Int.reduceEq, eq_self, reduceCtorEq]
    exact ⟨rfl, hsn.symm⟩
  ·simp -implicitDefEqProofs (maxSteps := 4000000) (disch := omega) only [push_cast, c59, Nat.reduceAdd, Nat.reduceSub, Nat.reduceMul, Nat.reduceBEq, Int.reduceToNat, Int.reduceNeg, Int.reduceLE, Int.reduceLT, Int.reduceBEq, Int.reduceBNe, Int.reduceEq, eq_self, reduceCtorEq]
   have hsn := outB_snoc (R := R) (i := 8) (by omega)
   refine ⟨fun h0 => ?_, fun h0 => ?_⟩
   ·refine lcallW_eq _ _ _ (f26 _ _ _ _ (by have := hrow 8; omega)) ?_
    simp -implicitDefEqProofs (maxSteps := 4000000) (disch := omega) only [push_cast, c59, Nat.reduceAdd, Nat.reduceSub, Nat.reduceMul, Nat.reduceBEq, Int.reduceToNat, Int.reduceNeg, Int.reduceLE, Int.reduceLT, Int.reduceBEq, Int.reduceBNe, Int.reduceEq, eq_self, reduceCtorEq]
    rw [if_pos h0] at hsn
    refine ⟨by have := hob 8; first | omega | (rw [List.take_zero] at this; omega), 7, _, by omega, (Weak.junkAt _ 53 8).trans (Weak.gc _ [6, 7, 9, 14, 53, 54]), 9, by omega, by omega, ?_⟩
    simp -implicitDefEqProofs (maxSteps := 4000000) (disch := omega) only [push_cast, c59, Nat.reduceAdd, Nat.reduceSub, Nat.reduceMul, Nat.reduceBEq, Int.reduceToNat, Int.reduceNeg, Int.reduceLE, Int.reduceLT, Int.reduceBEq, Int.reduceBNe, Int.reduceEq, eq_self, reduceCtorEq]
    exact ⟨rfl, hsn.symm⟩
   ·rw [if_neg (by omega), List.append_nil] at hsn
    refine ⟨7, _, by omega, (Weak.junkAt _ 53 8).trans (Weak.gc _ [6, 7, 9, 14, 53, 54]), 9, by omega, by omega, ?_⟩
    simp -implicitDefEqProofs (maxSteps := 4000000) (disch := omega) only [push_cast, c59, Nat.reduceAdd, Nat.reduceSub, Nat.reduceMul, Nat.reduceBEq, Int.reduceToNat, Int.reduceNeg, Int.reduceLE, Int.reduceLT, Int.reduceBEq, Int.reduceBNe, Int.reduceEq, eq_self, reduceCtorEq]
    exact ⟨rfl, hsn.symm⟩
  ·simp -implicitDefEqProofs (maxSteps := 4000000) (disch := omega) only [push_cast, c59, Nat.reduceAdd, Nat.reduceSub, Nat.reduceMul, Nat.reduceBEq, Int.reduceToNat, Int.reduceNeg, Int.reduceLE, Int.reduceLT, Int.reduceBEq, Int.reduceBNe, Int.reduceEq, eq_self, reduceCtorEq]
   have hsn := outB_snoc (R := R) (i := 9) (by omega)
   refine ⟨fun h0 => ?_, fun h0 => ?_⟩
   ·refine lcallW_eq _ _ _ (f26 _ _ _ _ (by have := hrow 9; omega)) ?_
    simp -implicitDefEqProofs (maxSteps := 4000000) (disch := omega) only [push_cast, c59, Nat.reduceAdd, Nat.reduceSub, Nat.reduceMul, Nat.reduceBEq, Int.reduceToNat, Int.reduceNeg, Int.reduceLE, Int.reduceLT, Int.reduceBEq, Int.reduceBNe, Int.reduceEq, eq_self, reduceCtorEq]
    rw [if_pos h0] at hsn
    refine ⟨by have := hob 9; first | omega | (rw [List.take_zero] at this; omega), 6, _, by omega, (Weak.junkAt _ 53 9).trans (Weak.gc _ [6, 7, 9, 14, 53, 54]), 10, by omega, by omega, ?_⟩
    simp -implicitDefEqProofs (maxSteps := 4000000) (disch := omega) only [push_cast, c59, Nat.reduceAdd, Nat.reduceSub, Nat.reduceMul, Nat.reduceBEq, Int.reduceToNat, Int.reduceNeg, Int.reduceLE, Int.reduceLT, Int.reduceBEq, Int.reduceBNe, Int.reduceEq, eq_self, reduceCtorEq]
    exact ⟨rfl, hsn.symm⟩
   ·rw [if_neg (by omega), List.append_nil] at hsn
    refine ⟨6, _, by omega, (Weak.junkAt _ 53 9).trans (Weak.gc _ [6, 7, 9, 14, 53, 54]), 10, by omega, by omega, ?_⟩
    simp -implicitDefEqProofs (maxSteps := 4000000) (disch := omega) only [push_cast, c59, Nat.reduceAdd, Nat.reduceSub, Nat.reduceMul, Nat.reduceBEq, Int.reduceToNat, Int.reduceNeg, Int.reduceLE, Int.reduceLT, Int.reduceBEq, Int.reduceBNe, Int.reduceEq, eq_self, reduceCtorEq]
    exact ⟨rfl, hsn.symm⟩
  ·simp -implicitDefEqProofs (maxSteps := 4000000) (disch := omega) only [push_cast, c59, Nat.reduceAdd, Nat.reduceSub, Nat.reduceMul, Nat.reduceBEq, Int.reduceToNat, Int.reduceNeg, Int.reduceLE, Int.reduceLT, Int.reduceBEq, Int.reduceBNe, Int.reduceEq, eq_self, reduceCtorEq]
   have hsn := outB_snoc (R := R) (i := 10) (by omega)
   refine ⟨fun h0 => ?_, fun h0 => ?_⟩
   ·refine lcallW_eq _ _ _ (f26 _ _ _ _ (by have := hrow 10; omega)) ?_
    simp -implicitDefEqProofs (maxSteps := 4000000) (disch := omega) only [push_cast, c59, Nat.reduceAdd, Nat.reduceSub, Nat.reduceMul, Nat.reduceBEq, Int.reduceToNat, Int.reduceNeg, Int.reduceLE, Int.reduceLT, Int.reduceBEq, Int.reduceBNe, Int.reduceEq, eq_self, reduceCtorEq]
    rw [if_pos h0] at hsn
    refine ⟨by have := hob 10; first | omega | (rw [List.take_zero] at this; omega), 5, _, by omega, (Weak.junkAt _ 53 10).trans (Weak.gc _ [6, 7, 9, 14, 53, 54]), 11, by omega, by omega, ?_⟩
    simp -implicitDefEqProofs (maxSteps := 4000000) (disch := omega) only [push_cast, c59, Nat.reduceAdd, Nat.reduceSub, Nat.reduceMul, Nat.reduceBEq, Int.reduceToNat, Int.reduceNeg, Int.reduceLE, Int.reduceLT, Int.reduceBEq, Int.reduceBNe, Int.reduceEq, eq_self, reduceCtorEq]
    exact ⟨rfl, hsn.symm⟩
   ·rw [if_neg (by omega), List.append_nil] at hsn
    refine ⟨5, _, by omega, (Weak.junkAt _ 53 10).trans (Weak.gc _ [6, 7, 9, 14, 53, 54]), 11, by omega, by omega, ?_⟩
    simp -implicitDefEqProofs (maxSteps := 4000000) (disch := omega) only [push_cast, c59, Nat.reduceAdd, Nat.reduceSub, Nat.reduceMul, Nat.reduceBEq, Int.reduceToNat, Int.reduceNeg, Int.reduceLE, Int.reduceLT, Int.reduceBEq, Int.reduceBNe, Int.reduceEq, eq_self, reduceCtorEq]
    exact ⟨rfl, hsn.symm⟩
  ·simp -implicitDefEqProofs (maxSteps := 4000000) (disch := omega) only [push_cast, c59, Nat.reduceAdd, Nat.reduceSub, Nat.reduceMul, Nat.reduceBEq, Int.reduceToNat, Int.reduceNeg, Int.reduceLE, Int.reduceLT, Int.reduceBEq, Int.reduceBNe, Int.reduceEq, eq_self, reduceCtorEq]
   have hsn := outB_snoc (R := R) (i := 11) (by omega)
   refine ⟨fun h0 => ?_, fun h0 => ?_⟩
   ·refine lcallW_eq _ _ _ (f26 _ _ _ _ (by have := hrow 11; omega)) ?_
    simp -implicitDefEqProofs (maxSteps := 4000000) (disch := omega) only [push_cast, c59, Nat.reduceAdd, Nat.reduceSub, Nat.reduceMul, Nat.reduceBEq, Int.reduceToNat, Int.reduceNeg, Int.reduceLE, Int.reduceLT, Int.reduceBEq, Int.reduceBNe, Int.reduceEq, eq_self, reduceCtorEq]
    rw [if_pos h0] at hsn
    refine ⟨by have := hob 11; first | omega | (rw [List.take_zero] at this; omega), 4, _, by omega, (Weak.junkAt _ 53 11).trans (Weak.gc _ [6, 7, 9, 14, 53, 54]), 12, by omega, by omega, ?_⟩
    simp -implicitDefEqProofs (maxSteps := 4000000) (disch := omega) only [push_cast, c59, Nat.reduceAdd, Nat.reduceSub, Nat.reduceMul, Nat.reduceBEq, Int.reduceToNat, Int.reduceNeg, Int.reduceLE, Int.reduceLT, Int.reduceBEq, Int.reduceBNe, Int.reduceEq, eq_self, reduceCtorEq]
    exact ⟨rfl, hsn.symm⟩
   ·rw [if_neg (by omega), List.append_nil] at hsn
    refine ⟨4, _, by omega, (Weak.junkAt _ 53 11).trans (Weak.gc _ [6, 7, 9, 14, 53, 54]), 12, by omega, by omega, ?_⟩
    simp -implicitDefEqProofs (maxSteps := 4000000) (disch := omega) only [push_cast, c59, Nat.reduceAdd, Nat.reduceSub, Nat.reduceMul, Nat.reduceBEq, Int.reduceToNat, Int.reduceNeg, Int.reduceLE, Int.reduceLT, Int.reduceBEq, Int.reduceBNe, Int.reduceEq, eq_self, reduceCtorEq]
    exact ⟨rfl, hsn.symm⟩
  ·simp -implicitDefEqProofs (maxSteps := 4000000) (disch := omega) only [push_cast, c59, Nat.reduceAdd, Nat.reduceSub, Nat.reduceMul, Nat.reduceBEq, Int.reduceToNat, Int.reduceNeg, Int.reduceLE, Int.reduceLT, Int.reduceBEq, Int.reduceBNe, Int.reduceEq, eq_self, reduceCtorEq]
   have hsn := outB_snoc (R := R) (i := 12) (by omega)
   refine ⟨fun h0 => ?_, fun h0 => ?_⟩
   ·refine lcallW_eq _ _ _ (f26 _ _ _ _ (by have := hrow 12; omega)) ?_
    simp -implicitDefEqProofs (maxSteps := 4000000) (disch := omega) only [push_cast, c59, Nat.reduceAdd, Nat.reduceSub, Nat.reduceMul, Nat.reduceBEq, Int.reduceToNat, Int.reduceNeg, Int.reduceLE, Int.reduceLT, Int.reduceBEq, Int.reduceBNe, Int.reduceEq, eq_self, reduceCtorEq]
    rw [if_pos h0] at hsn
    refine ⟨by have := hob 12; first | omega | (rw [List.take_zero] at this; omega), 3, _, by omega, (Weak.junkAt _ 53 12).trans (Weak.gc _ [6, 7, 9, 14, 53, 54]), 13, by omega, by omega, ?_⟩
    simp -implicitDefEqProofs (maxSteps := 4000000) (disch := omega) only [push_cast, c59, Nat.reduceAdd, Nat.reduceSub, Nat.reduceMul, Nat.reduceBEq, Int.reduceToNat, Int.reduceNeg, Int.reduceLE, Int.reduceLT, Int.reduceBEq, Int.reduceBNe, Int.reduceEq, eq_self, reduceCtorEq]
    exact ⟨rfl, hsn.symm⟩
   ·rw [if_neg (by omega), List.append_nil] at hsn
    refine ⟨3, _, by omega, (Weak.junkAt _ 53 12).trans (Weak.gc _ [6, 7, 9, 14, 53, 54]), 13, by omega, by omega, ?_⟩
    simp -implicitDefEqProofs (maxSteps := 4000000) (disch := omega) only [push_cast, c59, Nat.reduceAdd, Nat.reduceSub, Nat.reduceMul, Nat.reduceBEq, Int.reduceToNat, Int.reduceNeg, Int.reduceLE, Int.reduceLT, Int.reduceBEq, Int.reduceBNe, Int.reduceEq, eq_self, reduceCtorEq]
    exact ⟨rfl, hsn.symm⟩
  ·simp -implicitDefEqProofs (maxSteps := 4000000) (disch := omega) only [push_cast, c59, Nat.reduceAdd, Nat.reduceSub, Nat.reduceMul, Nat.reduceBEq, Int.reduceToNat, Int.reduceNeg, Int.reduceLE, Int.reduceLT, Int.reduceBEq, Int.reduceBNe, Int.reduceEq, eq_self, reduceCtorEq]
   have hsn := outB_snoc (R := R) (i := 13) (by omega)
   refine ⟨fun h0 => ?_, fun h0 => ?_⟩
   ·refine lcallW_eq _ _ _ (f26 _ _ _ _ (by have := hrow 13; omega)) ?_
    simp -implicitDefEqProofs (maxSteps := 4000000) (disch := omega) only [push_cast, c59, Nat.reduceAdd, Nat.reduceSub, Nat.reduceMul, Nat.reduceBEq, Int.reduceToNat, Int.reduceNeg, Int.reduceLE, Int.reduceLT, Int.reduceBEq, Int.reduceBNe, Int.reduceEq, eq_self, reduceCtorEq]
    rw [if_pos h0] at hsn
    refine ⟨by have := hob 13; first | omega | (rw [List.take_zero] at this; omega), 2, _, by omega, (Weak.junkAt _ 53 13).trans (Weak.gc _ [6, 7, 9, 14, 53, 54]), 14, by omega, by omega, ?_⟩
    simp -implicitDefEqProofs (maxSteps := 4000000) (disch := omega) only [push_cast, c59, Nat.reduceAdd, Nat.reduceSub, Nat.reduceMul, Nat.reduceBEq, Int.reduceToNat, Int.reduceNeg, Int.reduceLE, Int.reduceLT, Int.reduceBEq, Int.reduceBNe, Int.reduceEq, eq_self, reduceCtorEq]
    exact ⟨rfl, hsn.symm⟩
   ·rw [if_neg (by omega), List.append_nil] at hsn
    refine ⟨2, _, by omega, (Weak.junkAt _ 53 13).trans (Weak.gc _ [6, 7, 9, 14, 53, 54]), 14, by omega, by omega, ?_⟩
    simp -implicitDefEqProofs (maxSteps := 4000000) (disch := omega) only [push_cast, c59, Nat.reduceAdd, Nat.reduceSub, Nat.reduceMul, Nat.reduceBEq, Int.reduceToNat, Int.reduceNeg, Int.reduceLE, Int.reduceLT, Int.reduceBEq, Int.reduceBNe, Int.reduceEq, eq_self, reduceCtorEq]
    exact ⟨rfl, hsn.symm⟩
  ·simp -implicitDefEqProofs (maxSteps := 4000000) (disch := omega) only [push_cast, c59, Nat.reduceAdd, Nat.reduceSub, Nat.reduceMul, Nat.reduceBEq, Int.reduceToNat, Int.reduceNeg, Int.reduceLE, Int.reduceLT, Int.reduceBEq, Int.reduceBNe, Int.reduceEq, eq_self, reduceCtorEq]
   have hsn := outB_snoc (R := R) (i := 14) (by omega)
   refine ⟨fun h0 => ?_, fun h0 => ?_⟩
   ·refine lcallW_eq _ _ _ (f26 _ _ _ _ (by have := hrow 14; omega)) ?_
    simp -implicitDefEqProofs (maxSteps := 4000000) (disch := omega) only [push_cast, c59, Nat.reduceAdd, Nat.reduceSub, Nat.reduceMul, Nat.reduceBEq, Int.reduceToNat, Int.reduceNeg, Int.reduceLE, Int.reduceLT, Int.reduceBEq, Int.reduceBNe, Int.reduceEq, eq_self, reduceCtorEq]
    rw [if_pos h0] at hsn
    refine ⟨by have := hob 14; first | omega | (rw [List.take_zero] at this; omega), 1, _, by omega, (Weak.junkAt _ 53 14).trans (Weak.gc _ [6, 7, 9, 14, 53, 54]), 15, by omega, by omega, ?_⟩
    simp -implicitDefEqProofs (maxSteps := 4000000) (disch := omega) only [push_cast, c59, Nat.reduceAdd, Nat.reduceSub, Nat.reduceMul, Nat.reduceBEq, Int.reduceToNat, Int.reduceNeg, Int.reduceLE, Int.reduceLT, Int.reduceBEq, Int.reduceBNe, Int.reduceEq, eq_self, reduceCtorEq]
    exact ⟨rfl, hsn.symm⟩
   ·rw [if_neg (by omega), List.append_nil] at hsn
    refine ⟨1, _, by omega, (Weak.junkAt _ 53 14).trans (Weak.gc _ [6, 7, 9, 14, 53, 54]), 15, by omega, by omega, ?_⟩
    simp -implicitDefEqProofs (maxSteps := 4000000) (disch := omega) only [push_cast, c59, Nat.reduceAdd, Nat.reduceSub, Nat.reduceMul, Nat.reduceBEq, Int.reduceToNat, Int.reduceNeg, Int.reduceLE, Int.reduceLT, Int.reduceBEq, Int.reduceBNe, Int.reduceEq, eq_self, reduceCtorEq]
    exact ⟨rfl, hsn.symm⟩
  ·simp -implicitDefEqProofs (maxSteps := 4000000) (disch := omega) only [push_cast, c59, Nat.reduceAdd, Nat.reduceSub, Nat.reduceMul, Nat.reduceBEq, Int.reduceToNat, Int.reduceNeg, Int.reduceLE, Int.reduceLT, Int.reduceBEq, Int.reduceBNe, Int.reduceEq, eq_self, reduceCtorEq]
   have hsn := outB_snoc (R := R) (i := 15) (by omega)
   refine ⟨fun h0 => ?_, fun h0 => ?_⟩
   ·refine lcallW_eq _ _ _ (f26 _ _ _ _ (by have := hrow 15; omega)) ?_
    simp -implicitDefEqProofs (maxSteps := 4000000) (disch := omega) only [push_cast, c59, Nat.reduceAdd, Nat.reduceSub, Nat.reduceMul, Nat.reduceBEq, Int.reduceToNat, Int.reduceNeg, Int.reduceLE, Int.reduceLT, Int.reduceBEq, Int.reduceBNe, Int.reduceEq, eq_self, reduceCtorEq]
    rw [if_pos h0] at hsn
    refine ⟨by have := hob 15; first | omega | (rw [List.take_zero] at this; omega), 0, _, by omega, (Weak.junkAt _ 53 15).trans (Weak.gc _ [6, 7, 9, 14, 53, 54]), 16, by omega, by omega, ?_⟩
    simp -implicitDefEqProofs (maxSteps := 4000000) (disch := omega) only [push_cast, c59, Nat.reduceAdd, Nat.reduceSub, Nat.reduceMul, Nat.reduceBEq, Int.reduceToNat, Int.reduceNeg, Int.reduceLE, Int.reduceLT, Int.reduceBEq, Int.reduceBNe, Int.reduceEq, eq_self, reduceCtorEq]
    exact ⟨rfl, hsn.symm⟩
   ·rw [if_neg (by omega), List.append_nil] at hsn
    refine ⟨0, _, by omega, (Weak.junkAt _ 53 15).trans (Weak.gc _ [6, 7, 9, 14, 53, 54]), 16, by omega, by omega, ?_⟩
    simp -implicitDefEqProofs (maxSteps := 4000000) (disch := omega) only [push_cast, c59, Nat.reduceAdd, Nat.reduceSub, Nat.reduceMul, Nat.reduceBEq, Int.reduceToNat, Int.reduceNeg, Int.reduceLE, Int.reduceLT, Int.reduceBEq, Int.reduceBNe, Int.reduceEq, eq_self, reduceCtorEq]
    exact ⟨rfl, hsn.symm⟩
  ·simp -implicitDefEqProofs (maxSteps := 4000000) (disch := omega) only [push_cast, c59, Nat.reduceAdd, Nat.reduceSub, Nat.reduceMul, Nat.reduceBEq, Int.reduceToNat, Int.reduceNeg, Int.reduceLE, Int.reduceLT, Int.reduceBEq, Int.reduceBNe, Int.reduceEq, eq_self, reduceCtorEq]
   have e16 : R.take 16 = R := List.take_of_length_le (by omega)
   rw [e16, movB, movW]
   rw [List.take_length] at hq
   rw [hq, hR, hW]
   exact ⟨rfl, rfl⟩
end Go.AM
end

section
namespace Go.AM
open Go Go.Proofs Go.Sort
def c22 : VCfg := ⟨⟨[], [], [], [0, 1, 2, 3, 4, 8, 9, 10]⟩, [], [], []⟩
theorem f22 (a : List (List Int)) (z : Bool) (hl : a.length ≤ 60) : ACall Tryz.prog 22 [.agg [.pay (.rows a) z]] (fun r objs => ∃ nz, r = .pay (.ints .i64 (allS a.length)) nz ∧ objs = []) := by
 suffices h : ACall Tryz.prog 22 [.agg [.pay (.rows a) z]] (fun r objs => r = .own 0 ∧ objs = [.arr (.ints .i64 (allS a.length)) ⟨3, false⟩]) by
  refine h.frz ?_
  rintro r objs ⟨rfl, rfl⟩
  exact ⟨[0], _, 1, rfl, _, rfl, rfl⟩
 refine acall_intro (tyP_ok _) c22 2000 [.tmp 2] Tryz.func22 rfl (by rfl) rfl (by kernel_rfl) ?_
 unfold Tryz.f22
 simp -implicitDefEqProofs (maxSteps := 4000000) (disch := omega) only [push_cast, c22, Nat.reduceAdd, Nat.reduceSub, Nat.reduceMul, Nat.reduceBEq, Int.reduceToNat, Int.reduceNeg, Int.reduceLE, Int.reduceLT, Int.reduceBEq, Int.reduceBNe, Int.reduceEq, eq_self, reduceCtorEq]
 refine awp_upd (tyP_ok _) c22 2000 [2, 3, 8, 9] (a.length) (fun _ => True) (fun i => [(9, .int .i64 i)]) (fun i => [(0, .arr (.ints .i64 (allS i)) ⟨3, false⟩)]) (by kernel_rfl) rfl ?_ ?_
 ·trivial
 intro i hi _
 have hal : (allS i).length = i := by simp [allS]
 simp -implicitDefEqProofs (maxSteps := 4000000) (disch := omega) only [push_cast, c22, Nat.reduceAdd, Nat.reduceSub, Nat.reduceMul, Nat.reduceBEq, Int.reduceToNat, Int.reduceNeg, Int.reduceLE, Int.reduceLT, Int.reduceBEq, Int.reduceBNe, Int.reduceEq, eq_self, reduceCtorEq]
 refine ⟨fun hlt => ⟨by omega, hlt, by simp [allS, List.range_succ]⟩, fun hge => ?_⟩
 rw [show i = a.length by omega]
theorem fst_nil {n : Nat} (h : n < 2) : fstB n = [] := by rw [fstB, if_pos h]
theorem fst_all {n : Nat} (h : 2 ≤ n) : fstB n = [allS n] := by rw [fstB, if_neg (by omega)]
def c36 : VCfg := ⟨⟨[], [], [], [0, 1, 2, 6]⟩, [], [], []⟩
set_option maxRecDepth 100000 in
theorem f36 (N O : List (List Int)) (z z' : Bool) (hl : N.length ≤ 60) : ACall Tryz.prog 36 [.agg [.pay (.rows (N)) (z), .pay (.rows (O)) (z')]] (fun r objs => ∃ nz, r = .pay (.rows (fstB N.length)) nz ∧ objs = []) := by
 suffices h : ACall Tryz.prog 36 [.agg [.pay (.rows (N)) (z), .pay (.rows (O)) (z')]] (fun r objs => (∃ nz, r = .pay (.rows (fstB N.length)) nz ∧ objs = []) ∨ ∃ nz, r = .own 0 ∧ objs = [.arr (.rows (fstB N.length)) ⟨27, nz⟩]) by
  refine h.frz ?_
  rintro r objs (⟨nz, rfl, rfl⟩ | ⟨nz, rfl, rfl⟩)
  ·exact ⟨[], _, 0, rfl, _, rfl, rfl⟩
  ·exact ⟨[0], _, 1, rfl, _, rfl, rfl⟩
 refine acall_intro (tyP_ok _) c36 2000 [.tmp 2] Tryz.func36 rfl (by rfl) rfl (by kernel_rfl) ?_
 unfold Tryz.f36
 simp -implicitDefEqProofs (maxSteps := 4000000) (disch := omega) only [push_cast, c36, Nat.reduceAdd, Nat.reduceSub, Nat.reduceMul, Nat.reduceBEq, Int.reduceToNat, Int.reduceNeg, Int.reduceLE, Int.reduceLT, Int.reduceBEq, Int.reduceBNe, Int.reduceEq, eq_self, reduceCtorEq]
 refine ⟨fun h => .inl ⟨true, by rw [fst_nil (by omega)], rfl⟩, fun h => ?_⟩
 refine callW_eq _ _ (f19 N O z z') ?_
 simp -implicitDefEqProofs (maxSteps := 4000000) (disch := omega) only [push_cast, c36, Nat.reduceAdd, Nat.reduceSub, Nat.reduceMul, Nat.reduceBEq, Int.reduceToNat, Int.reduceNeg, Int.reduceLE, Int.reduceLT, Int.reduceBEq, Int.reduceBNe, Int.reduceEq, eq_self, reduceCtorEq]
 refine callW_rel (f22 N z hl) ?_
 rintro R O' ⟨nz, rfl, rfl⟩
 simp -implicitDefEqProofs (maxSteps := 4000000) (disch := omega) only [push_cast, c36, Nat.reduceAdd, Nat.reduceSub, Nat.reduceMul, Nat.reduceBEq, Int.reduceToNat, Int.reduceNeg, Int.reduceLE, Int.reduceLT, Int.reduceBEq, Int.reduceBNe, Int.reduceEq, eq_self, reduceCtorEq]
 rw [fst_all (by omega)]
 exact .inr ⟨false, rfl, rfl⟩
def c39 : VCfg := ⟨⟨[], [], [8], [0, 1, 2, 3, 6, 7, 8, 9, 11, 12, 13, 15, 16, 17, 18, 19, 33, 34, 35, 36, 41]⟩, [], [60, 61], [49, 51]⟩
def stpQ (N O : List (List Int)) (x : Int) (L : List (List Int)) : List (List Int) := L.flatMap fun b => bigB (movB N O b x)
theorem stpQ_snoc {N O : List (List Int)} {x : Int} {L : List (List Int)} {i : Nat} (h : i < L.length) : stpQ N O x (L.take (i + 1)) = stpQ N O x (L.take i) ++ bigB (movB N O (L.getD i []) x) := by
 have e : L.take (i + 1) = L.take i ++ [L.getD i []] := by rw [List.take_succ_eq_append_getElem h]; simp [List.getD, h]
 rw [e]; simp [stpQ]
theorem stpW_snoc {N O : List (List Int)} {x : Int} {L : List (List Int)} {i : Nat} (h : i < L.length) : stpW N O (L.take (i + 1)) x = (stpW N O (L.take i) x && movW N O (L.getD i []) x) := by
 have e : L.take (i + 1) = L.take i ++ [L.getD i []] := by rw [List.take_succ_eq_append_getElem h]; simp [List.getD, h]
 rw [e]; simp [stpW]
theorem bigB_snoc {M : List (List Int)} {j : Nat} (h : j < M.length) : bigB (M.take (j + 1)) = bigB (M.take j) ++ (if 1 < (M.getD j []).length then [M.getD j []] else []) := by
 have e : M.take (j + 1) = M.take j ++ [M.getD j []] := by rw [List.take_succ_eq_append_getElem h]; simp [List.getD, h]
 rw [e, bigB, bigB, List.filter_append]
 by_cases h : 1 < (M.getD j []).length
 ·rw [if_pos h, List.filter_cons_of_pos (by simpa using h)]; rfl
 ·rw [if_neg h, List.filter_cons_of_neg (by simpa using h)]; rfl
def accB (Q M : List (List Int)) : Nat → List (List Int)
 | 0 => Q
 | j + 1 => accB Q M j ++ (if 1 < (M.getD j []).length then [M.getD j []] else [])
theorem accB_eq {Q M : List (List Int)} : ∀ j, j ≤ M.length → accB Q M j = Q ++ bigB (M.take j)
 | 0, _ => by simp [accB, bigB]
 | j + 1, h => by rw [accB, accB_eq j (by omega), bigB_snoc (by omega), List.append_assoc]
theorem accB_len {Q M : List (List Int)} : ∀ j, (accB Q M j).length ≤ Q.length + j
 | 0 => Nat.le_refl _
 | j + 1 => by
  have := accB_len (Q := Q) (M := M) j
  rw [accB, List.length_append]
  split <;> simp <;> omega
theorem movB_len {N O : List (List Int)} {b : List Int} {x : Int} : (movB N O b x).length ≤ 16 := by
 rw [movB, outB, List.length_map]
 refine Nat.le_trans (List.length_filter_le _ _) ?_
 rw [mvP_len]
 exact Nat.le_refl _
theorem stpQ_len {N O : List (List Int)} {x : Int} : ∀ L : List (List Int), (stpQ N O x L).length ≤ L.length * 16
 | [] => by simp [stpQ]
 | b :: L => by
  have h1 := stpQ_len (N := N) (O := O) (x := x) L
  have h2 : (bigB (movB N O b x)).length ≤ 16 := Nat.le_trans (List.length_filter_le _ _) movB_len
  unfold stpQ at h1 ⊢
  rw [List.flatMap_cons, List.length_append, List.length_cons]
  omega
theorem stpQ_row {N O : List (List Int)} {x : Int} {L : List (List Int)} {m : Nat} (hm : ∀ b ∈ L, b.length ≤ m) : ∀ r ∈ stpQ N O x L, r.length ≤ m := fun r hr => by
 simp only [stpQ, List.mem_flatMap, bigB, List.mem_filter] at hr
 obtain ⟨b, hb, h1, _⟩ := hr
 obtain ⟨o, _, _, rfl⟩ := mem_outB.1 h1
 rw [sortL_len]
 exact Nat.le_trans (mvP_row x b o) (hm b hb)
set_option maxHeartbeats 8000000 in
set_option maxRecDepth 100000 in
theorem f39 (N O : List (List Int)) (z z' u : Bool) (L : List (List Int)) (x : Int) (k : Nat) (hV : VM N O k) (hx : 0 ≤ x ∧ x < k) (hL : ∀ b ∈ L, b.length ≤ 60 ∧ ∀ s ∈ b, 0 ≤ s ∧ s < N.length) (hl : L.length ≤ 1000000) :
  ACall Tryz.prog 39 [.agg [.pay (.rows (N)) (z), .pay (.rows (O)) (z')], .pay (.rows L) u, .int .i64 x] (fun r objs => ∃ nz, r = .tup [.pay (.rows (stpB N O L x)) nz, .bool (stpW N O L x)] ∧ objs = []) := by
 refine acall_intro (tyP_ok _) c39 2000 [.tmp 6, .tmp 7] Tryz.func39 rfl (by rfl) rfl (by kernel_rfl) ?_
 unfold Tryz.f39
 simp -implicitDefEqProofs (maxSteps := 4000000) (disch := omega) only [push_cast, c39, Nat.reduceAdd, Nat.reduceSub, Nat.reduceMul, Nat.reduceBEq, Int.reduceToNat, Int.reduceNeg, Int.reduceLE, Int.reduceLT, Int.reduceBEq, Int.reduceBNe, Int.reduceEq, eq_self, reduceCtorEq]
 refine awp_upd (tyP_ok _) c39 2000 [2, 3, 6, 7, 8, 9, 16, 17, 18] (L.length) (fun _ => True) (fun i => [(9, .bool (stpW N O (L.take i) x)), (18, .int .i64 i)]) (fun i => [(0, .arr (.rows (stpQ N O x (L.take i))) ⟨27, true⟩)]) (by kernel_rfl) (by rw [List.take_zero]; rfl) ?_ ?_
 ·trivial
 intro i hi _
 simp -implicitDefEqProofs (maxSteps := 4000000) (disch := omega) only [push_cast, c39, Nat.reduceAdd, Nat.reduceSub, Nat.reduceMul, Nat.reduceBEq, Int.reduceToNat, Int.reduceNeg, Int.reduceLE, Int.reduceLT, Int.reduceBEq, Int.reduceBNe, Int.reduceEq, eq_self, reduceCtorEq]
 refine ⟨fun hlt => ⟨hlt, ?_⟩, fun hge => ?_⟩
 ·have hLi := hL _ (getD_mem' hlt)
  have hq := stpQ_snoc (N := N) (O := O) (x := x) hlt
  have hw := stpW_snoc (N := N) (O := O) (x := x) hlt
  have hql := stpQ_len (N := N) (O := O) (x := x) (L.take i)
  rw [List.length_take] at hql
  generalize hQ : stpQ N O x (L.take i) = Q at *
  generalize hM : movB N O (L.getD i []) x = M at *
  have hMl : M.length ≤ 16 := by rw [← hM]; exact movB_len
  refine callW_rel (f59 N O z z' false (L.getD i []) x k hV hx hLi.2 hLi.1) ?_
  rintro R O' ⟨nz, rfl, rfl⟩
  simp -implicitDefEqProofs (maxSteps := 4000000) (disch := omega) only [push_cast, c39, Nat.reduceAdd, Nat.reduceSub, Nat.reduceMul, Nat.reduceBEq, Int.reduceToNat, Int.reduceNeg, Int.reduceLE, Int.reduceLT, Int.reduceBEq, Int.reduceBNe, Int.reduceEq, eq_self, reduceCtorEq]
  rw [hM]
  refine ⟨fun hwt => ?_, fun hwf => ?_⟩
  ·refine awp_upd (tyP_ok _) c39 2000 [2, 3, 6, 7, 8, 9, 16, 17, 18, 33, 34, 35] (M.length) (fun _ => True) (fun j => [(35, .int .i64 j)]) (fun j => [(0, .arr (.rows (accB Q M j)) ⟨27, true⟩)]) (by kernel_rfl) rfl ?_ ?_
   ·trivial
   intro j hj _
   have hal := accB_len (Q := Q) (M := M) j
   simp -implicitDefEqProofs (maxSteps := 4000000) (disch := omega) only [push_cast, c39, Nat.reduceAdd, Nat.reduceSub, Nat.reduceMul, Nat.reduceBEq, Int.reduceToNat, Int.reduceNeg, Int.reduceLE, Int.reduceLT, Int.reduceBEq, Int.reduceBNe, Int.reduceEq, eq_self, reduceCtorEq]
   refine ⟨fun hjl => ⟨hjl, fun h1 => ⟨by omega, hjl, by rw [accB, if_pos (show 1 < (M.getD j []).length by omega)]⟩, fun h1 => ⟨hjl, by rw [accB, if_neg (by omega), List.append_nil]⟩⟩, fun hjl => ?_⟩
   obtain rfl : j = M.length := by omega
   rw [hq, hw, accB_eq _ (Nat.le_refl _), List.take_length]
   exact ⟨hlt, by rw [hwt]; rfl, rfl⟩
  ·refine awp_upd (tyP_ok _) c39 2000 [2, 3, 6, 7, 8, 9, 16, 17, 18, 33, 34, 35] (M.length) (fun _ => True) (fun j => [(35, .int .i64 j)]) (fun j => [(0, .arr (.rows (accB Q M j)) ⟨27, true⟩)]) (by kernel_rfl) rfl ?_ ?_
   ·trivial
   intro j hj _
   have hal := accB_len (Q := Q) (M := M) j
   simp -implicitDefEqProofs (maxSteps := 4000000) (disch := omega) only [push_cast, c39, Nat.reduceAdd, Nat.reduceSub, Nat.reduceMul, Nat.reduceBEq, Int.reduceToNat, Int.reduceNeg, Int.reduceLE, Int.reduceLT, Int.reduceBEq, Int.reduceBNe, Int.reduceEq, eq_self, reduceCtorEq]
   refine ⟨fun hjl => ⟨hjl, fun h1 => ⟨by omega, hjl, by rw [accB, if_pos (show 1 < (M.getD j []).length by omega)]⟩, fun h1 => ⟨hjl, by rw [accB, if_neg (by omega), List.append_nil]⟩⟩, fun hjl => ?_⟩
   obtain rfl : j = M.length := by omega
   rw [hq, hw, accB_eq _ (Nat.le_refl _), List.take_length]
   exact ⟨hlt, by rw [hwf]; rfl, rfl⟩
 ·have hie : i = L.length := by omega
  subst hie
  rw [List.take_length]
  have hql := stpQ_len (N := N) (O := O) (x := x) L
  have hqr := stpQ_row (N := N) (O := O) (x := x) (m := 60) (fun b hb => (hL b hb).1)
  refine lcallW_rel (f60 _ _ _ _ (by omega) (fun r hr => by have := hqr r hr; omega)) ?_
  rintro g1 R A O' ⟨rfl, rfl, rfl, L', hl', ⟨hp, hs⟩, rfl⟩
  simp -implicitDefEqProofs (maxSteps := 4000000) (disch := omega) only [push_cast, c39, Nat.reduceAdd, Nat.reduceSub, Nat.reduceMul, Nat.reduceBEq, Int.reduceToNat, Int.reduceNeg, Int.reduceLE, Int.reduceLT, Int.reduceBEq, Int.reduceBNe, Int.reduceEq, eq_self, reduceCtorEq]
  refine lcallW_rel (f61 _ _ L' _ (by omega) (fun r hr => by have := hqr r (hp.mem_iff.1 hr); omega)) ?_
  rintro g1 R A O' ⟨rfl, ⟨z, rfl⟩, rfl, hO⟩
  rw [compR_once hs, onceL_congr (fun _ => hp.mem_iff)]
  rcases hO with rfl | rfl
  ·simp -implicitDefEqProofs (maxSteps := 4000000) (disch := omega) only [push_cast, c39, Nat.reduceAdd, Nat.reduceSub, Nat.reduceMul, Nat.reduceBEq, Int.reduceToNat, Int.reduceNeg, Int.reduceLE, Int.reduceLT, Int.reduceBEq, Int.reduceBNe, Int.reduceEq, eq_self, reduceCtorEq]
   exact ⟨_, rfl, rfl⟩
  ·simp -implicitDefEqProofs (maxSteps := 4000000) (disch := omega) only [push_cast, c39, Nat.reduceAdd, Nat.reduceSub, Nat.reduceMul, Nat.reduceBEq, Int.reduceToNat, Int.reduceNeg, Int.reduceLE, Int.reduceLT, Int.reduceBEq, Int.reduceBNe, Int.reduceEq, eq_self, reduceCtorEq]
   exact ⟨_, rfl, rfl⟩
end Go.AM
end

section
namespace Go.AM
open Go Go.Proofs Go.Sort
noncomputable def askE (N O : List (List Int)) (w : List Int) : Int := if vmB N O = false then 1 else if wordB (N.getD 0 []).length w = false then 2 else 0
def c34 : VCfg := ⟨⟨[], [], [], [0, 1, 2, 4, 5, 9]⟩, [], [], []⟩
theorem f34 (N O : List (List Int)) (z z' u : Bool) (w : List Int) (hl : N.length ≤ 4611686018427387904) (hl2 : ∀ r ∈ N, r.length ≤ 4611686018427387904) (ho : O.length ≤ 4611686018427387904) (ho2 : ∀ r ∈ O, r.length ≤ 4611686018427387904) (hw : w.length ≤ 4611686018427387904) :
  ACall Tryz.prog 34 [.agg [.pay (.rows (N)) (z), .pay (.rows (O)) (z')], .pay (.ints .i64 w) u] (fun r objs => r = .int .i64 (askE N O w) ∧ objs = []) := by
 refine acall_intro (tyP_ok _) c34 2000 [.tmp 4] Tryz.func34 rfl (by rfl) rfl (by kernel_rfl) ?_
 unfold Tryz.f34
 simp -implicitDefEqProofs (maxSteps := 4000000) (disch := omega) only [push_cast, c34, Nat.reduceAdd, Nat.reduceSub, Nat.reduceMul, Nat.reduceBEq, Int.reduceToNat, Int.reduceNeg, Int.reduceLE, Int.reduceLT, Int.reduceBEq, Int.reduceBNe, Int.reduceEq, eq_self, reduceCtorEq]
 refine callW_eq _ _ (f17 N O z z' hl hl2 ho ho2) ?_
 simp -implicitDefEqProofs (maxSteps := 4000000) (disch := omega) only [push_cast, c34, Nat.reduceAdd, Nat.reduceSub, Nat.reduceMul, Nat.reduceBEq, Int.reduceToNat, Int.reduceNeg, Int.reduceLE, Int.reduceLT, Int.reduceBEq, Int.reduceBNe, Int.reduceEq, eq_self, reduceCtorEq]
 refine ⟨fun hv => by rw [askE, hv]; rfl, fun hv => ?_⟩
 have hV := vmB_iff.1 hv
 have hn1 := hV.v.n1
 refine callW_eq _ _ (f19 N O z z') ?_
 simp -implicitDefEqProofs (maxSteps := 4000000) (disch := omega) only [push_cast, c34, Nat.reduceAdd, Nat.reduceSub, Nat.reduceMul, Nat.reduceBEq, Int.reduceToNat, Int.reduceNeg, Int.reduceLE, Int.reduceLT, Int.reduceBEq, Int.reduceBNe, Int.reduceEq, eq_self, reduceCtorEq]
 refine callW_eq _ _ (f58 N z u w (by omega) hw) ?_
 simp -implicitDefEqProofs (maxSteps := 4000000) (disch := omega) only [push_cast, c34, Nat.reduceAdd, Nat.reduceSub, Nat.reduceMul, Nat.reduceBEq, Int.reduceToNat, Int.reduceNeg, Int.reduceLE, Int.reduceLT, Int.reduceBEq, Int.reduceBNe, Int.reduceEq, eq_self, reduceCtorEq]
 exact ⟨fun h => by rw [askE, hv, h]; rfl, fun h => by rw [askE, hv, h]; rfl⟩
def homB (N O : List (List Int)) (w : List Int) : Bool := (aftB N O w).1.isEmpty
def telB (N O : List (List Int)) (w : List Int) : Bool := (aftB N O w).2 && (aftB N O w).1.isEmpty
theorem len_empty {α : Type} (l : List α) : ((l.length : Int) == 0) = l.isEmpty := by
 cases l with
 | nil => rfl
 | cons x l =>
  rw [List.length_cons, List.isEmpty_cons, beq_eq_false_iff_ne]
  omega
theorem homB_iff {N O : List (List Int)} {k : Nat} (hV : VM N O k) {w : List Int} (hw : ∀ x ∈ w, 0 ≤ x ∧ x < k) : homB N O w = true ↔ homW N O w := by
 rw [homB, List.isEmpty_iff, hom_iff hV hw]
theorem telB_iff {N O : List (List Int)} {k : Nat} (hV : VM N O k) {w : List Int} (hw : ∀ x ∈ w, 0 ≤ x ∧ x < k) : telB N O w = true ↔ telW N O w := by
 rw [telB, Bool.and_eq_true, List.isEmpty_iff, tel_iff hV hw]
def c35 : VCfg := ⟨⟨[], [], [], [0, 1, 2, 4, 5, 6, 7, 9, 10, 11, 14, 15, 16, 17]⟩, [], [], []⟩
set_option maxHeartbeats 4000000 in
set_option maxRecDepth 100000 in
theorem f35 (N O : List (List Int)) (z z' u : Bool) (w : List Int) (k : Nat) (hV : VM N O k) (hw : ∀ x ∈ w, 0 ≤ x ∧ x < k) (hl : w.length ≤ 1000000) :
  ACall Tryz.prog 35 [.agg [.pay (.rows (N)) (z), .pay (.rows (O)) (z')], .pay (.ints .i64 w) u] (fun r objs => ∃ nz, r = .tup [.pay (.rows (aftB N O w).1) nz, .bool (aftB N O w).2] ∧ objs = []) := by
 have hn2 := hV.v.n2
 refine acall_intro (tyP_ok _) c35 2000 [.tmp 4, .tmp 5] Tryz.func35 rfl (by rfl) rfl (by kernel_rfl) ?_
 unfold Tryz.f35
 simp -implicitDefEqProofs (maxSteps := 4000000) (disch := omega) only [push_cast, c35, Nat.reduceAdd, Nat.reduceSub, Nat.reduceMul, Nat.reduceBEq, Int.reduceToNat, Int.reduceNeg, Int.reduceLE, Int.reduceLT, Int.reduceBEq, Int.reduceBNe, Int.reduceEq, eq_self, reduceCtorEq]
 refine callW_rel (f36 N O z z' hn2) ?_
 rintro R O' ⟨nz, rfl, rfl⟩
 simp -implicitDefEqProofs (maxSteps := 4000000) (disch := omega) only [push_cast, c35, Nat.reduceAdd, Nat.reduceSub, Nat.reduceMul, Nat.reduceBEq, Int.reduceToNat, Int.reduceNeg, Int.reduceLE, Int.reduceLT, Int.reduceBEq, Int.reduceBNe, Int.reduceEq, eq_self, reduceCtorEq]
 refine awp_loop (tyP_ok _) c35 2000 [2, 4, 5, 6, 7, 14, 15, 16] (fun n g st => ∃ (i : Nat) (nz : Bool), g = (false, 0) ∧ i ≤ w.length ∧ n = w.length - i ∧ st = ⟨35, [(2, .fref [.pay (.rows N) z, .pay (.rows O) z']), (4, .pay (.rows []) true), (5, .bool false), (6, .pay (.rows (aftB N O (w.take i)).1) nz), (7, .bool (aftB N O (w.take i)).2), (14, .pay (.ints .i64 w) u), (15, .int .i64 w.length), (16, .int .i64 i)], []⟩) w.length (by kernel_rfl) ?_ ?_
 ·simp -implicitDefEqProofs (maxSteps := 4000000) (disch := omega) only [push_cast, c35, Nat.reduceAdd, Nat.reduceSub, Nat.reduceMul, Nat.reduceBEq, Int.reduceToNat, Int.reduceNeg, Int.reduceLE, Int.reduceLT, Int.reduceBEq, Int.reduceBNe, Int.reduceEq, eq_self, reduceCtorEq]
  exact ⟨0, nz, by omega, by omega, ⟨rfl, rfl⟩, rfl, rfl⟩
 rintro n g st ⟨i, nz, rfl, hi, rfl, rfl⟩
 simp -implicitDefEqProofs (maxSteps := 4000000) (disch := omega) only [push_cast, c35, Nat.reduceAdd, Nat.reduceSub, Nat.reduceMul, Nat.reduceBEq, Int.reduceToNat, Int.reduceNeg, Int.reduceLE, Int.reduceLT, Int.reduceBEq, Int.reduceBNe, Int.reduceEq, eq_self, reduceCtorEq]
 refine ⟨fun hlt => ⟨hlt, ?_⟩, fun hge => ?_⟩
 ·have hx := hw _ (getD_mem hlt)
  have hsp := aft_spec hV (w.take i) fun c hc => hw c (List.mem_of_mem_take hc)
  have hfw := hsp.1.few (tot_aft _)
  have hst : aftB N O (w.take (i + 1)) = aftP N O (aftB N O (w.take i)) (w.getD i 0) := by rw [take_snoc hlt, aftB_snoc]
  generalize hq : aftB N O (w.take i) = q at *
  obtain ⟨l, b⟩ := q
  simp only at hsp hfw
  refine callW_rel (f39 N O z z' nz l (w.getD i 0) k hV hx (fun b hb => ⟨by have := hfw.2 b hb; omega, hsp.1.st b hb⟩) (by have := hfw.1; omega)) ?_
  rintro R O' ⟨nz2, rfl, rfl⟩
  simp -implicitDefEqProofs (maxSteps := 4000000) (disch := omega) only [push_cast, c35, Nat.reduceAdd, Nat.reduceSub, Nat.reduceMul, Nat.reduceBEq, Int.reduceToNat, Int.reduceNeg, Int.reduceLE, Int.reduceLT, Int.reduceBEq, Int.reduceBNe, Int.reduceEq, eq_self, reduceCtorEq]
  rw [aftP] at hst
  refine ⟨fun hb => ⟨w.length - (i + 1), by omega, i + 1, nz2, by omega, rfl, ?_⟩, fun hb => ⟨w.length - (i + 1), by omega, i + 1, nz2, by omega, rfl, ?_⟩⟩
  ·subst hb; rw [hst]; exact ⟨⟨rfl, rfl⟩, rfl, by push_cast; rfl⟩
  ·subst hb; rw [hst]; exact ⟨⟨rfl, rfl⟩, rfl, by push_cast; rfl⟩
 ·rw [List.take_of_length_le hge]
  exact ⟨nz, ⟨rfl, rfl⟩, rfl⟩
def c12 : VCfg := ⟨⟨[], [], [], [0, 1, 2, 4, 5, 6, 7, 13]⟩, [], [], []⟩
set_option maxHeartbeats 4000000 in
theorem f12 (N O : List (List Int)) (z z' u : Bool) (w : List Int) (hl : N.length ≤ 4611686018427387904) (hl2 : ∀ r ∈ N, r.length ≤ 4611686018427387904) (ho : O.length ≤ 4611686018427387904) (ho2 : ∀ r ∈ O, r.length ≤ 4611686018427387904) (hw : w.length ≤ 4611686018427387904) :
  ACall Tryz.prog 12 [.agg [.pay (.rows (N)) (z), .pay (.rows (O)) (z')], .pay (.ints .i64 w) u] (fun r objs => r = .tup [.bool (decide (askE N O w = 0) && homB N O w), .int .i64 (askE N O w)] ∧ objs = []) := by
 refine acall_intro (tyP_ok _) c12 2000 [.tmp 4, .tmp 5] Tryz.func12 rfl (by rfl) rfl (by kernel_rfl) ?_
 unfold Tryz.f12
 simp -implicitDefEqProofs (maxSteps := 4000000) (disch := omega) only [push_cast, c12, Nat.reduceAdd, Nat.reduceSub, Nat.reduceMul, Nat.reduceBEq, Int.reduceToNat, Int.reduceNeg, Int.reduceLE, Int.reduceLT, Int.reduceBEq, Int.reduceBNe, Int.reduceEq, eq_self, reduceCtorEq]
 refine callW_eq _ _ (f34 N O z z' u w hl hl2 ho ho2 hw) ?_
 simp -implicitDefEqProofs (maxSteps := 4000000) (disch := omega) only [push_cast, c12, Nat.reduceAdd, Nat.reduceSub, Nat.reduceMul, Nat.reduceBEq, Int.reduceToNat, Int.reduceNeg, Int.reduceLE, Int.reduceLT, Int.reduceBEq, Int.reduceBNe, Int.reduceEq, eq_self, reduceCtorEq]
 refine ⟨fun h => by simp [h], fun h => ?_⟩
 have hv : vmB N O = true ∧ wordB (N.getD 0 []).length w = true := by
  unfold askE at h
  split at h
  ·cases h
  ·split at h
   ·cases h
   ·rename_i h1 h2
    exact ⟨by simpa using h1, by simpa using h2⟩
 have hV := vmB_iff.1 hv.1
 have hwo := wordB_iff.1 hv.2
 refine callW_rel (f35 N O z z' u w _ hV hwo.2 (by omega)) ?_
 rintro R O' ⟨nz, rfl, rfl⟩
 simp -implicitDefEqProofs (maxSteps := 4000000) (disch := omega) only [push_cast, c12, Nat.reduceAdd, Nat.reduceSub, Nat.reduceMul, Nat.reduceBEq, Int.reduceToNat, Int.reduceNeg, Int.reduceLE, Int.reduceLT, Int.reduceBEq, Int.reduceBNe, Int.reduceEq, eq_self, reduceCtorEq]
 rw [h, len_empty]
 exact ⟨by simp [homB], rfl⟩
def c14 : VCfg := ⟨⟨[], [], [], [0, 1, 2, 4, 5, 6, 7, 8, 13]⟩, [], [], []⟩
set_option maxHeartbeats 4000000 in
theorem f14 (N O : List (List Int)) (z z' u : Bool) (w : List Int) (hl : N.length ≤ 4611686018427387904) (hl2 : ∀ r ∈ N, r.length ≤ 4611686018427387904) (ho : O.length ≤ 4611686018427387904) (ho2 : ∀ r ∈ O, r.length ≤ 4611686018427387904) (hw : w.length ≤ 4611686018427387904) :
  ACall Tryz.prog 14 [.agg [.pay (.rows (N)) (z), .pay (.rows (O)) (z')], .pay (.ints .i64 w) u] (fun r objs => r = .tup [.bool (decide (askE N O w = 0) && telB N O w), .int .i64 (askE N O w)] ∧ objs = []) := by
 refine acall_intro (tyP_ok _) c14 2000 [.tmp 4, .tmp 5] Tryz.func14 rfl (by rfl) rfl (by kernel_rfl) ?_
 unfold Tryz.f14
 simp -implicitDefEqProofs (maxSteps := 4000000) (disch := omega) only [push_cast, c14, Nat.reduceAdd, Nat.reduceSub, Nat.reduceMul, Nat.reduceBEq, Int.reduceToNat, Int.reduceNeg, Int.reduceLE, Int.reduceLT, Int.reduceBEq, Int.reduceBNe, Int.reduceEq, eq_self, reduceCtorEq]
 refine callW_eq _ _ (f34 N O z z' u w hl hl2 ho ho2 hw) ?_
 simp -implicitDefEqProofs (maxSteps := 4000000) (disch := omega) only [push_cast, c14, Nat.reduceAdd, Nat.reduceSub, Nat.reduceMul, Nat.reduceBEq, Int.reduceToNat, Int.reduceNeg, Int.reduceLE, Int.reduceLT, Int.reduceBEq, Int.reduceBNe, Int.reduceEq, eq_self, reduceCtorEq]
 refine ⟨fun h => by simp [h], fun h => ?_⟩
 have hv : vmB N O = true ∧ wordB (N.getD 0 []).length w = true := by
  unfold askE at h
  split at h
  ·cases h
  ·split at h
   ·cases h
   ·rename_i h1 h2
    exact ⟨by simpa using h1, by simpa using h2⟩
 have hV := vmB_iff.1 hv.1
 have hwo := wordB_iff.1 hv.2
 refine callW_rel (f35 N O z z' u w _ hV hwo.2 (by omega)) ?_
 rintro R O' ⟨nz, rfl, rfl⟩
 simp -implicitDefEqProofs (maxSteps := 4000000) (disch := omega) only [push_cast, c14, Nat.reduceAdd, Nat.reduceSub, Nat.reduceMul, Nat.reduceBEq, Int.reduceToNat, Int.reduceNeg, Int.reduceLE, Int.reduceLT, Int.reduceBEq, Int.reduceBNe, Int.reduceEq, eq_self, reduceCtorEq]
 rw [h, len_empty]
 refine ⟨fun hb => ⟨by simp [telB, hb], rfl⟩, fun hb => ⟨by simp [telB, hb], rfl⟩⟩
end Go.AM
end

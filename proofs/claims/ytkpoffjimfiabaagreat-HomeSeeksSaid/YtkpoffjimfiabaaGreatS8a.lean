/-
  Contracts of Least and of the reference's IsMinimal; conditions in each statement.
-/
import Derived.Test.YtkpoffjimfiabaaGreatS3
set_option linter.unusedVariables false
set_option linter.unusedSimpArgs false
set_option linter.unusedSectionVars false
set_option linter.unnecessarySimpa false

section
namespace Go.AM
open Go Go.Proofs Go.Sort
def c20 : VCfg := ⟨⟨[], [], [], [0, 1, 2, 4]⟩, [], [], []⟩
theorem f20 (N O : List (List Int)) (z z' : Bool) (k : Nat) (hV : VM N O k) : ACall Tryz.prog 20 [.agg [.pay (.rows (N)) (z), .pay (.rows (O)) (z')]] (fun r objs => r = .bool (decide (cntT N O k = N.length)) ∧ objs = []) := by
 refine acall_intro (tyP_ok _) c20 2000 [.tmp 2] Tryz.func20 rfl (by rfl) rfl (by kernel_rfl) ?_
 unfold Tryz.f20
 simp -implicitDefEqProofs (maxSteps := 4000000) (disch := omega) only [push_cast, c20, Nat.reduceAdd, Nat.reduceSub, Nat.reduceMul, Nat.reduceBEq, Int.reduceToNat, Int.reduceNeg, Int.reduceLE, Int.reduceLT, Int.reduceBEq, Int.reduceBNe, Int.reduceEq, eq_self, reduceCtorEq]
 refine callW_eq _ _ (f46 N O z z' k hV) ?_
 simp -implicitDefEqProofs (maxSteps := 4000000) (disch := omega) only [push_cast, c20, Nat.reduceAdd, Nat.reduceSub, Nat.reduceMul, Nat.reduceBEq, Int.reduceToNat, Int.reduceNeg, Int.reduceLE, Int.reduceLT, Int.reduceBEq, Int.reduceBNe, Int.reduceEq, eq_self, reduceCtorEq]
 rw [Bool.eq_iff_iff]
 simp only [beq_iff_eq, decide_eq_true_eq]
 omega
def c8 : VCfg := ⟨⟨[], [], [], [0, 1, 2]⟩, [(1, (.op 0 .loose (.op 3 .loose (.op 4 .loose (.op 5 .loose (.op 1 .eff (.op 2 .eff (.op 6 .loose (.op 7 .loose .nil)))))))))], [], []⟩
theorem f8 (N O : List (List Int)) (z z' : Bool) (k : Nat) (hV : VM N O k) : ACall Tryz.prog 8 [.agg [.pay (.rows (N)) (z), .pay (.rows (O)) (z')]] (fun r objs => r = .bool (decide (cntT N O k = N.length)) ∧ objs = []) := by
 refine acall_intro (tyP_ok _) c8 2000 [.tmp 2] Tryz.func8 rfl (by rfl) rfl (by kernel_rfl) ?_
 unfold Tryz.f8
 simp -implicitDefEqProofs (maxSteps := 4000000) (disch := omega) only [push_cast, c8, Nat.reduceAdd, Nat.reduceSub, Nat.reduceMul, Nat.reduceBEq, Int.reduceToNat, Int.reduceNeg, Int.reduceLE, Int.reduceLT, Int.reduceBEq, Int.reduceBNe, Int.reduceEq, eq_self, reduceCtorEq]
 refine callW_eq _ _ (f30 N O z z' k hV) ?_
 simp -implicitDefEqProofs (maxSteps := 4000000) (disch := omega) only [push_cast, c8, Nat.reduceAdd, Nat.reduceSub, Nat.reduceMul, Nat.reduceBEq, Int.reduceToNat, Int.reduceNeg, Int.reduceLE, Int.reduceLT, Int.reduceBEq, Int.reduceBNe, Int.reduceEq, eq_self, reduceCtorEq]
 have hl : (clsT N O k).length = N.length := clsT_len
 have hn1 := hV.v.n1
 have hn := hV.v.n2
 have hc : cntT N O k ≤ N.length := cntI_le _
 refine callW_eq _ _ (f29 (clsT N O k) _ (cntT N O k) (by omega) (by omega) (fun i hi => cls_rng (by omega)) (fun _ => ⟨repC N O k (cntT N O k - 1), by have := (repC_ok (N := N) (O := O) (k := k) (c := cntT N O k - 1) (by omega)).1; omega, by have := (repC_ok (N := N) (O := O) (k := k) (c := cntT N O k - 1) (by omega)).2.2.2; unfold atC at this; omega⟩)) ?_
 simp -implicitDefEqProofs (maxSteps := 4000000) (disch := omega) only [push_cast, c8, Nat.reduceAdd, Nat.reduceSub, Nat.reduceMul, Nat.reduceBEq, Int.reduceToNat, Int.reduceNeg, Int.reduceLE, Int.reduceLT, Int.reduceBEq, Int.reduceBNe, Int.reduceEq, eq_self, reduceCtorEq]
 rw [Bool.eq_iff_iff]
 simp only [beq_iff_eq, decide_eq_true_eq]
 omega
end Go.AM
end

/-
  Contracts of HomeWords; conditions in each statement.
-/
import Derived.Test.YtkpoffjimfiabaaS7
set_option linter.unusedVariables false
set_option linter.unusedSimpArgs false
set_option linter.unusedSectionVars false
set_option linter.unnecessarySimpa false

section
namespace Go.AM
open Go Go.Proofs Go.Sort
def c3 : VCfg := ⟨⟨[], [], [], [0, 1, 2, 4, 5, 6, 7, 8, 25, 39, 61]⟩, [], [], []⟩
set_option maxHeartbeats 4000000 in
set_option maxRecDepth 100000 in
theorem f3 (N O : List (List Int)) (w : List Int) (hl : N.length ≤ 4611686018427387904) (ho : O.length ≤ 4611686018427387904) (hw : w.length ≤ 17592186044416) :
  ACall Try.prog 3 [.agg [.pay (.rows (N)) (false), .pay (.rows (O)) (false)], .pay (.ints .i64 w) false] (fun r objs => r = .bool true ∧ objs = []) := by
 refine acall_intro (tyP_ok _) c3 2000 [.tmp 4] Try.func3 rfl (by rfl) rfl (by kernel_rfl) ?_
 unfold Try.f3
 simp -implicitDefEqProofs (maxSteps := 4000000) (disch := omega) only [push_cast, c3, Nat.reduceAdd, Nat.reduceSub, Nat.reduceMul, Nat.reduceBEq, Int.reduceToNat, Int.reduceNeg, Int.reduceLE, Int.reduceLT, Int.reduceBEq, Int.reduceBNe, Int.reduceEq, eq_self, reduceCtorEq]
 refine callW_rel (f12 N O false false hl ho) ?_
 rintro R O' ⟨b, rfl, hb, rfl⟩
 simp -implicitDefEqProofs (maxSteps := 4000000) (disch := omega) only [push_cast, c3, Nat.reduceAdd, Nat.reduceSub, Nat.reduceMul, Nat.reduceBEq, Int.reduceToNat, Int.reduceNeg, Int.reduceLE, Int.reduceLT, Int.reduceBEq, Int.reduceBNe, Int.reduceEq, eq_self, reduceCtorEq]
 refine ⟨fun h => ?_, fun h => ⟨fun h1 => ⟨fun h2 => ?_, fun h2 => ⟨fun h3 => ?_, fun h3 => ?_⟩⟩, fun h1 => ⟨fun h3 => ?_, fun h3 => ?_⟩⟩⟩
 ·refine callW_eq _ _ (f13) ?_
  simp -implicitDefEqProofs (maxSteps := 4000000) (disch := omega) only [push_cast, c3, Nat.reduceAdd, Nat.reduceSub, Nat.reduceMul, Nat.reduceBEq, Int.reduceToNat, Int.reduceNeg, Int.reduceLE, Int.reduceLT, Int.reduceBEq, Int.reduceBNe, Int.reduceEq, eq_self, reduceCtorEq]
 ·refine callW_eq _ _ (f13) ?_
  simp -implicitDefEqProofs (maxSteps := 4000000) (disch := omega) only [push_cast, c3, Nat.reduceAdd, Nat.reduceSub, Nat.reduceMul, Nat.reduceBEq, Int.reduceToNat, Int.reduceNeg, Int.reduceLE, Int.reduceLT, Int.reduceBEq, Int.reduceBNe, Int.reduceEq, eq_self, reduceCtorEq]
 ·refine callW_eq _ _ (f13) ?_
  simp -implicitDefEqProofs (maxSteps := 4000000) (disch := omega) only [push_cast, c3, Nat.reduceAdd, Nat.reduceSub, Nat.reduceMul, Nat.reduceBEq, Int.reduceToNat, Int.reduceNeg, Int.reduceLE, Int.reduceLT, Int.reduceBEq, Int.reduceBNe, Int.reduceEq, eq_self, reduceCtorEq]
 ·have h := hb h
  have hb2 := nb h
  cases hv : vmB N O with
  | false =>
   refine callW_eq _ _ (Homes_b1 N O false false false w h (by omega) hv) ?_
   simp -implicitDefEqProofs (maxSteps := 4000000) (disch := omega) only [push_cast, c3, Nat.reduceAdd, Nat.reduceSub, Nat.reduceMul, Nat.reduceBEq, Int.reduceToNat, Int.reduceNeg, Int.reduceLE, Int.reduceLT, Int.reduceBEq, Int.reduceBNe, Int.reduceEq, eq_self, reduceCtorEq]
   refine callW_eq _ _ (Tells_b1 N O false false false w h (by omega) hv) ?_
   simp -implicitDefEqProofs (maxSteps := 4000000) (disch := omega) only [push_cast, c3, Nat.reduceAdd, Nat.reduceSub, Nat.reduceMul, Nat.reduceBEq, Int.reduceToNat, Int.reduceNeg, Int.reduceLE, Int.reduceLT, Int.reduceBEq, Int.reduceBNe, Int.reduceEq, eq_self, reduceCtorEq]
   refine callW_eq _ _ (f16 N O false false hb2.1.1 hb2.1.2 hb2.2.1 hb2.2.2) ?_
   simp -implicitDefEqProofs (maxSteps := 4000000) (disch := omega) only [push_cast, c3, Nat.reduceAdd, Nat.reduceSub, Nat.reduceMul, Nat.reduceBEq, Int.reduceToNat, Int.reduceNeg, Int.reduceLE, Int.reduceLT, Int.reduceBEq, Int.reduceBNe, Int.reduceEq, eq_self, reduceCtorEq]
   refine ⟨fun _ => ?_, fun h => (by rw [hv] at h; cases h)⟩
   refine callW_eq _ _ (f13) ?_
   simp -implicitDefEqProofs (maxSteps := 4000000) (disch := omega) only [push_cast, c3, Nat.reduceAdd, Nat.reduceSub, Nat.reduceMul, Nat.reduceBEq, Int.reduceToNat, Int.reduceNeg, Int.reduceLE, Int.reduceLT, Int.reduceBEq, Int.reduceBNe, Int.reduceEq, eq_self, reduceCtorEq]
  | true =>
   have hV := vmB_iff.1 hv
   have hn1 := hV.v.n1
   cases hW : wordB (N.getD 0 []).length w with
   | false =>
    refine callW_eq _ _ (Homes_b2 N O false false false w h (by omega) hv hW) ?_
    simp -implicitDefEqProofs (maxSteps := 4000000) (disch := omega) only [push_cast, c3, Nat.reduceAdd, Nat.reduceSub, Nat.reduceMul, Nat.reduceBEq, Int.reduceToNat, Int.reduceNeg, Int.reduceLE, Int.reduceLT, Int.reduceBEq, Int.reduceBNe, Int.reduceEq, eq_self, reduceCtorEq]
    refine callW_eq _ _ (Tells_b2 N O false false false w h (by omega) hv hW) ?_
    simp -implicitDefEqProofs (maxSteps := 4000000) (disch := omega) only [push_cast, c3, Nat.reduceAdd, Nat.reduceSub, Nat.reduceMul, Nat.reduceBEq, Int.reduceToNat, Int.reduceNeg, Int.reduceLE, Int.reduceLT, Int.reduceBEq, Int.reduceBNe, Int.reduceEq, eq_self, reduceCtorEq]
    refine callW_eq _ _ (f16 N O false false hb2.1.1 hb2.1.2 hb2.2.1 hb2.2.2) ?_
    simp -implicitDefEqProofs (maxSteps := 4000000) (disch := omega) only [push_cast, c3, Nat.reduceAdd, Nat.reduceSub, Nat.reduceMul, Nat.reduceBEq, Int.reduceToNat, Int.reduceNeg, Int.reduceLE, Int.reduceLT, Int.reduceBEq, Int.reduceBNe, Int.reduceEq, eq_self, reduceCtorEq]
    refine ⟨fun h => (by rw [hv] at h; cases h), fun _ => ?_⟩
    refine callW_eq _ _ (f18 N O false false (by omega)) ?_
    simp -implicitDefEqProofs (maxSteps := 4000000) (disch := omega) only [push_cast, c3, Nat.reduceAdd, Nat.reduceSub, Nat.reduceMul, Nat.reduceBEq, Int.reduceToNat, Int.reduceNeg, Int.reduceLE, Int.reduceLT, Int.reduceBEq, Int.reduceBNe, Int.reduceEq, eq_self, reduceCtorEq]
    refine callW_eq _ _ (f17 _ w false (by omega)) ?_
    simp -implicitDefEqProofs (maxSteps := 4000000) (disch := omega) only [push_cast, c3, Nat.reduceAdd, Nat.reduceSub, Nat.reduceMul, Nat.reduceBEq, Int.reduceToNat, Int.reduceNeg, Int.reduceLE, Int.reduceLT, Int.reduceBEq, Int.reduceBNe, Int.reduceEq, eq_self, reduceCtorEq]
    refine ⟨fun _ => ?_, fun h => (by rw [hW] at h; cases h)⟩
    refine callW_eq _ _ (f13) ?_
    simp -implicitDefEqProofs (maxSteps := 4000000) (disch := omega) only [push_cast, c3, Nat.reduceAdd, Nat.reduceSub, Nat.reduceMul, Nat.reduceBEq, Int.reduceToNat, Int.reduceNeg, Int.reduceLE, Int.reduceLT, Int.reduceBEq, Int.reduceBNe, Int.reduceEq, eq_self, reduceCtorEq]
   | true =>
    have hW2 := wordB_iff.1 hW
    refine callW_eq _ _ (Homes_ok N O false false false w h (by omega) hv hW) ?_
    simp -implicitDefEqProofs (maxSteps := 4000000) (disch := omega) only [push_cast, c3, Nat.reduceAdd, Nat.reduceSub, Nat.reduceMul, Nat.reduceBEq, Int.reduceToNat, Int.reduceNeg, Int.reduceLE, Int.reduceLT, Int.reduceBEq, Int.reduceBNe, Int.reduceEq, eq_self, reduceCtorEq]
    refine callW_eq _ _ (Tells_ok N O false false false w h (by omega) hv hW) ?_
    simp -implicitDefEqProofs (maxSteps := 4000000) (disch := omega) only [push_cast, c3, Nat.reduceAdd, Nat.reduceSub, Nat.reduceMul, Nat.reduceBEq, Int.reduceToNat, Int.reduceNeg, Int.reduceLE, Int.reduceLT, Int.reduceBEq, Int.reduceBNe, Int.reduceEq, eq_self, reduceCtorEq]
    refine callW_eq _ _ (f16 N O false false hb2.1.1 hb2.1.2 hb2.2.1 hb2.2.2) ?_
    simp -implicitDefEqProofs (maxSteps := 4000000) (disch := omega) only [push_cast, c3, Nat.reduceAdd, Nat.reduceSub, Nat.reduceMul, Nat.reduceBEq, Int.reduceToNat, Int.reduceNeg, Int.reduceLE, Int.reduceLT, Int.reduceBEq, Int.reduceBNe, Int.reduceEq, eq_self, reduceCtorEq]
    refine ⟨fun h => (by rw [hv] at h; cases h), fun _ => ?_⟩
    refine callW_eq _ _ (f18 N O false false (by omega)) ?_
    simp -implicitDefEqProofs (maxSteps := 4000000) (disch := omega) only [push_cast, c3, Nat.reduceAdd, Nat.reduceSub, Nat.reduceMul, Nat.reduceBEq, Int.reduceToNat, Int.reduceNeg, Int.reduceLE, Int.reduceLT, Int.reduceBEq, Int.reduceBNe, Int.reduceEq, eq_self, reduceCtorEq]
    refine callW_eq _ _ (f17 _ w false (by omega)) ?_
    simp -implicitDefEqProofs (maxSteps := 4000000) (disch := omega) only [push_cast, c3, Nat.reduceAdd, Nat.reduceSub, Nat.reduceMul, Nat.reduceBEq, Int.reduceToNat, Int.reduceNeg, Int.reduceLE, Int.reduceLT, Int.reduceBEq, Int.reduceBNe, Int.reduceEq, eq_self, reduceCtorEq]
    refine ⟨fun h => (by rw [hW] at h; cases h), fun _ => ?_⟩
    refine callW_eq _ _ (f19 N O false false false w _ hV hW2.2 (by omega)) ?_
    simp -implicitDefEqProofs (maxSteps := 4000000) (disch := omega) only [push_cast, c3, Nat.reduceAdd, Nat.reduceSub, Nat.reduceMul, Nat.reduceBEq, Int.reduceToNat, Int.reduceNeg, Int.reduceLE, Int.reduceLT, Int.reduceBEq, Int.reduceBNe, Int.reduceEq, eq_self, reduceCtorEq]
    refine callW_eq _ _ (f20 N O false false false w _ hV hW2.2 (by omega)) ?_
    simp -implicitDefEqProofs (maxSteps := 4000000) (disch := omega) only [push_cast, c3, Nat.reduceAdd, Nat.reduceSub, Nat.reduceMul, Nat.reduceBEq, Int.reduceToNat, Int.reduceNeg, Int.reduceLE, Int.reduceLT, Int.reduceBEq, Int.reduceBNe, Int.reduceEq, eq_self, reduceCtorEq]
    refine callW_eq _ _ (f13) ?_
    simp -implicitDefEqProofs (maxSteps := 4000000) (disch := omega) only [push_cast, c3, Nat.reduceAdd, Nat.reduceSub, Nat.reduceMul, Nat.reduceBEq, Int.reduceToNat, Int.reduceNeg, Int.reduceLE, Int.reduceLT, Int.reduceBEq, Int.reduceBNe, Int.reduceEq, eq_self, reduceCtorEq]
 ·refine callW_eq _ _ (f13) ?_
  simp -implicitDefEqProofs (maxSteps := 4000000) (disch := omega) only [push_cast, c3, Nat.reduceAdd, Nat.reduceSub, Nat.reduceMul, Nat.reduceBEq, Int.reduceToNat, Int.reduceNeg, Int.reduceLE, Int.reduceLT, Int.reduceBEq, Int.reduceBNe, Int.reduceEq, eq_self, reduceCtorEq]
 ·have h := hb h
  have hb2 := nb h
  cases hv : vmB N O with
  | false =>
   refine callW_eq _ _ (Homes_b1 N O false false false w h (by omega) hv) ?_
   simp -implicitDefEqProofs (maxSteps := 4000000) (disch := omega) only [push_cast, c3, Nat.reduceAdd, Nat.reduceSub, Nat.reduceMul, Nat.reduceBEq, Int.reduceToNat, Int.reduceNeg, Int.reduceLE, Int.reduceLT, Int.reduceBEq, Int.reduceBNe, Int.reduceEq, eq_self, reduceCtorEq]
   refine callW_eq _ _ (Tells_b1 N O false false false w h (by omega) hv) ?_
   simp -implicitDefEqProofs (maxSteps := 4000000) (disch := omega) only [push_cast, c3, Nat.reduceAdd, Nat.reduceSub, Nat.reduceMul, Nat.reduceBEq, Int.reduceToNat, Int.reduceNeg, Int.reduceLE, Int.reduceLT, Int.reduceBEq, Int.reduceBNe, Int.reduceEq, eq_self, reduceCtorEq]
   refine callW_eq _ _ (f16 N O false false hb2.1.1 hb2.1.2 hb2.2.1 hb2.2.2) ?_
   simp -implicitDefEqProofs (maxSteps := 4000000) (disch := omega) only [push_cast, c3, Nat.reduceAdd, Nat.reduceSub, Nat.reduceMul, Nat.reduceBEq, Int.reduceToNat, Int.reduceNeg, Int.reduceLE, Int.reduceLT, Int.reduceBEq, Int.reduceBNe, Int.reduceEq, eq_self, reduceCtorEq]
   refine ⟨fun _ => ?_, fun h => (by rw [hv] at h; cases h)⟩
   refine callW_eq _ _ (f13) ?_
   simp -implicitDefEqProofs (maxSteps := 4000000) (disch := omega) only [push_cast, c3, Nat.reduceAdd, Nat.reduceSub, Nat.reduceMul, Nat.reduceBEq, Int.reduceToNat, Int.reduceNeg, Int.reduceLE, Int.reduceLT, Int.reduceBEq, Int.reduceBNe, Int.reduceEq, eq_self, reduceCtorEq]
  | true =>
   have hV := vmB_iff.1 hv
   have hn1 := hV.v.n1
   cases hW : wordB (N.getD 0 []).length w with
   | false =>
    refine callW_eq _ _ (Homes_b2 N O false false false w h (by omega) hv hW) ?_
    simp -implicitDefEqProofs (maxSteps := 4000000) (disch := omega) only [push_cast, c3, Nat.reduceAdd, Nat.reduceSub, Nat.reduceMul, Nat.reduceBEq, Int.reduceToNat, Int.reduceNeg, Int.reduceLE, Int.reduceLT, Int.reduceBEq, Int.reduceBNe, Int.reduceEq, eq_self, reduceCtorEq]
    refine callW_eq _ _ (Tells_b2 N O false false false w h (by omega) hv hW) ?_
    simp -implicitDefEqProofs (maxSteps := 4000000) (disch := omega) only [push_cast, c3, Nat.reduceAdd, Nat.reduceSub, Nat.reduceMul, Nat.reduceBEq, Int.reduceToNat, Int.reduceNeg, Int.reduceLE, Int.reduceLT, Int.reduceBEq, Int.reduceBNe, Int.reduceEq, eq_self, reduceCtorEq]
    refine callW_eq _ _ (f16 N O false false hb2.1.1 hb2.1.2 hb2.2.1 hb2.2.2) ?_
    simp -implicitDefEqProofs (maxSteps := 4000000) (disch := omega) only [push_cast, c3, Nat.reduceAdd, Nat.reduceSub, Nat.reduceMul, Nat.reduceBEq, Int.reduceToNat, Int.reduceNeg, Int.reduceLE, Int.reduceLT, Int.reduceBEq, Int.reduceBNe, Int.reduceEq, eq_self, reduceCtorEq]
    refine ⟨fun h => (by rw [hv] at h; cases h), fun _ => ?_⟩
    refine callW_eq _ _ (f18 N O false false (by omega)) ?_
    simp -implicitDefEqProofs (maxSteps := 4000000) (disch := omega) only [push_cast, c3, Nat.reduceAdd, Nat.reduceSub, Nat.reduceMul, Nat.reduceBEq, Int.reduceToNat, Int.reduceNeg, Int.reduceLE, Int.reduceLT, Int.reduceBEq, Int.reduceBNe, Int.reduceEq, eq_self, reduceCtorEq]
    refine callW_eq _ _ (f17 _ w false (by omega)) ?_
    simp -implicitDefEqProofs (maxSteps := 4000000) (disch := omega) only [push_cast, c3, Nat.reduceAdd, Nat.reduceSub, Nat.reduceMul, Nat.reduceBEq, Int.reduceToNat, Int.reduceNeg, Int.reduceLE, Int.reduceLT, Int.reduceBEq, Int.reduceBNe, Int.reduceEq, eq_self, reduceCtorEq]
    refine ⟨fun _ => ?_, fun h => (by rw [hW] at h; cases h)⟩
    refine callW_eq _ _ (f13) ?_
    simp -implicitDefEqProofs (maxSteps := 4000000) (disch := omega) only [push_cast, c3, Nat.reduceAdd, Nat.reduceSub, Nat.reduceMul, Nat.reduceBEq, Int.reduceToNat, Int.reduceNeg, Int.reduceLE, Int.reduceLT, Int.reduceBEq, Int.reduceBNe, Int.reduceEq, eq_self, reduceCtorEq]
   | true =>
    have hW2 := wordB_iff.1 hW
    refine callW_eq _ _ (Homes_ok N O false false false w h (by omega) hv hW) ?_
    simp -implicitDefEqProofs (maxSteps := 4000000) (disch := omega) only [push_cast, c3, Nat.reduceAdd, Nat.reduceSub, Nat.reduceMul, Nat.reduceBEq, Int.reduceToNat, Int.reduceNeg, Int.reduceLE, Int.reduceLT, Int.reduceBEq, Int.reduceBNe, Int.reduceEq, eq_self, reduceCtorEq]
    refine callW_eq _ _ (Tells_ok N O false false false w h (by omega) hv hW) ?_
    simp -implicitDefEqProofs (maxSteps := 4000000) (disch := omega) only [push_cast, c3, Nat.reduceAdd, Nat.reduceSub, Nat.reduceMul, Nat.reduceBEq, Int.reduceToNat, Int.reduceNeg, Int.reduceLE, Int.reduceLT, Int.reduceBEq, Int.reduceBNe, Int.reduceEq, eq_self, reduceCtorEq]
    refine callW_eq _ _ (f16 N O false false hb2.1.1 hb2.1.2 hb2.2.1 hb2.2.2) ?_
    simp -implicitDefEqProofs (maxSteps := 4000000) (disch := omega) only [push_cast, c3, Nat.reduceAdd, Nat.reduceSub, Nat.reduceMul, Nat.reduceBEq, Int.reduceToNat, Int.reduceNeg, Int.reduceLE, Int.reduceLT, Int.reduceBEq, Int.reduceBNe, Int.reduceEq, eq_self, reduceCtorEq]
    refine ⟨fun h => (by rw [hv] at h; cases h), fun _ => ?_⟩
    refine callW_eq _ _ (f18 N O false false (by omega)) ?_
    simp -implicitDefEqProofs (maxSteps := 4000000) (disch := omega) only [push_cast, c3, Nat.reduceAdd, Nat.reduceSub, Nat.reduceMul, Nat.reduceBEq, Int.reduceToNat, Int.reduceNeg, Int.reduceLE, Int.reduceLT, Int.reduceBEq, Int.reduceBNe, Int.reduceEq, eq_self, reduceCtorEq]
    refine callW_eq _ _ (f17 _ w false (by omega)) ?_
    simp -implicitDefEqProofs (maxSteps := 4000000) (disch := omega) only [push_cast, c3, Nat.reduceAdd, Nat.reduceSub, Nat.reduceMul, Nat.reduceBEq, Int.reduceToNat, Int.reduceNeg, Int.reduceLE, Int.reduceLT, Int.reduceBEq, Int.reduceBNe, Int.reduceEq, eq_self, reduceCtorEq]
    refine ⟨fun h => (by rw [hW] at h; cases h), fun _ => ?_⟩
    refine callW_eq _ _ (f19 N O false false false w _ hV hW2.2 (by omega)) ?_
    simp -implicitDefEqProofs (maxSteps := 4000000) (disch := omega) only [push_cast, c3, Nat.reduceAdd, Nat.reduceSub, Nat.reduceMul, Nat.reduceBEq, Int.reduceToNat, Int.reduceNeg, Int.reduceLE, Int.reduceLT, Int.reduceBEq, Int.reduceBNe, Int.reduceEq, eq_self, reduceCtorEq]
    refine callW_eq _ _ (f20 N O false false false w _ hV hW2.2 (by omega)) ?_
    simp -implicitDefEqProofs (maxSteps := 4000000) (disch := omega) only [push_cast, c3, Nat.reduceAdd, Nat.reduceSub, Nat.reduceMul, Nat.reduceBEq, Int.reduceToNat, Int.reduceNeg, Int.reduceLE, Int.reduceLT, Int.reduceBEq, Int.reduceBNe, Int.reduceEq, eq_self, reduceCtorEq]
    refine callW_eq _ _ (f13) ?_
    simp -implicitDefEqProofs (maxSteps := 4000000) (disch := omega) only [push_cast, c3, Nat.reduceAdd, Nat.reduceSub, Nat.reduceMul, Nat.reduceBEq, Int.reduceToNat, Int.reduceNeg, Int.reduceLE, Int.reduceLT, Int.reduceBEq, Int.reduceBNe, Int.reduceEq, eq_self, reduceCtorEq]
theorem lawHomeWords (N O : List (List Int)) (w : List Int) (hl : N.length ≤ 4611686018427387904) (_ : ∀ r ∈ N, r.length ≤ 4611686018427387904) (ho : O.length ≤ 4611686018427387904) (_ : ∀ r ∈ O, r.length ≤ 4611686018427387904) (hw : w.length ≤ 17592186044416) :
  ACall Try.prog 3 [.agg [.pay (.rows (N)) (false), .pay (.rows (O)) (false)], .pay (.ints .i64 w) false] (fun r objs => r = .bool true ∧ objs = []) := f3 N O w hl ho hw
end Go.AM
end

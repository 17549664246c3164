/-
  Contracts of HomeLonger; conditions in each statement.
-/
import Derived.Test.YtkpoffjimfiabaaS7
set_option linter.unusedVariables false
set_option linter.unusedSimpArgs false
set_option linter.unusedSectionVars false
set_option linter.unnecessarySimpa false

section
namespace Go.AM
open Go Go.Proofs Go.Sort
theorem wordB_app {k : Nat} {u v : List Int} (hu : u.length ≤ 1000) (h : wordB k u = false) : wordB k (u ++ v) = false := by
 cases e : wordB k (u ++ v) with
 | false => rfl
 | true =>
  have h1 := (wordB_iff.1 e).2
  rw [wordB_iff.2 ⟨by omega, fun x hx => h1 x (by simp [hx])⟩] at h
  cases h
def c5 : VCfg := ⟨⟨[], [], [], [0, 1, 2, 3, 6, 7, 8, 9, 10, 11, 12, 13, 14, 15, 27, 79, 85]⟩, [], [], []⟩
set_option maxHeartbeats 4000000 in
set_option maxRecDepth 100000 in
theorem f5 (N O : List (List Int)) (u v : List Int) (hl : N.length ≤ 4611686018427387904) (ho : O.length ≤ 4611686018427387904) (hu : u.length ≤ 17592186044416) (hv : v.length ≤ 17592186044416) :
  ACall Try.prog 5 [.agg [.pay (.rows (N)) (false), .pay (.rows (O)) (false)], .pay (.ints .i64 u) false, .pay (.ints .i64 v) false] (fun r objs => r = .bool true ∧ objs = []) := by
 refine acall_intro (tyP_ok _) c5 2000 [.tmp 6] Try.func5 rfl (by rfl) rfl (by kernel_rfl) ?_
 unfold Try.f5
 simp -implicitDefEqProofs (maxSteps := 4000000) (disch := omega) only [push_cast, c5, Nat.reduceAdd, Nat.reduceSub, Nat.reduceMul, Nat.reduceBEq, Int.reduceToNat, Int.reduceNeg, Int.reduceLE, Int.reduceLT, Int.reduceBEq, Int.reduceBNe, Int.reduceEq, eq_self, reduceCtorEq]
 refine callW_rel (f12 N O false false hl ho) ?_
 rintro R O' ⟨b, rfl, hb, rfl⟩
 simp -implicitDefEqProofs (maxSteps := 4000000) (disch := omega) only [push_cast, c5, Nat.reduceAdd, Nat.reduceSub, Nat.reduceMul, Nat.reduceBEq, Int.reduceToNat, Int.reduceNeg, Int.reduceLE, Int.reduceLT, Int.reduceBEq, Int.reduceBNe, Int.reduceEq, eq_self, reduceCtorEq]
 refine ⟨fun h => ?_, fun h => ⟨fun h1 => ?_, fun h1 => ⟨fun h2 => ?_, fun h2 => ⟨by omega, by omega, ?_⟩⟩⟩⟩
 ·refine callW_eq _ _ (f13) ?_
  simp -implicitDefEqProofs (maxSteps := 4000000) (disch := omega) only [push_cast, c5, Nat.reduceAdd, Nat.reduceSub, Nat.reduceMul, Nat.reduceBEq, Int.reduceToNat, Int.reduceNeg, Int.reduceLE, Int.reduceLT, Int.reduceBEq, Int.reduceBNe, Int.reduceEq, eq_self, reduceCtorEq]
 ·refine callW_eq _ _ (f13) ?_
  simp -implicitDefEqProofs (maxSteps := 4000000) (disch := omega) only [push_cast, c5, Nat.reduceAdd, Nat.reduceSub, Nat.reduceMul, Nat.reduceBEq, Int.reduceToNat, Int.reduceNeg, Int.reduceLE, Int.reduceLT, Int.reduceBEq, Int.reduceBNe, Int.reduceEq, eq_self, reduceCtorEq]
 ·refine callW_eq _ _ (f13) ?_
  simp -implicitDefEqProofs (maxSteps := 4000000) (disch := omega) only [push_cast, c5, Nat.reduceAdd, Nat.reduceSub, Nat.reduceMul, Nat.reduceBEq, Int.reduceToNat, Int.reduceNeg, Int.reduceLE, Int.reduceLT, Int.reduceBEq, Int.reduceBNe, Int.reduceEq, eq_self, reduceCtorEq]
 have h := hb h
 have huv : (u ++ v).length ≤ 2000 := by rw [List.length_append]; omega
 cases hvm : vmB N O with
 | false =>
  refine callW_eq _ _ (Homes_b1 N O false false false u h (by omega) hvm) ?_
  simp -implicitDefEqProofs (maxSteps := 4000000) (disch := omega) only [push_cast, c5, Nat.reduceAdd, Nat.reduceSub, Nat.reduceMul, Nat.reduceBEq, Int.reduceToNat, Int.reduceNeg, Int.reduceLE, Int.reduceLT, Int.reduceBEq, Int.reduceBNe, Int.reduceEq, eq_self, reduceCtorEq]
  refine callW_eq _ _ (Tells_b1 N O false false false u h (by omega) hvm) ?_
  simp -implicitDefEqProofs (maxSteps := 4000000) (disch := omega) only [push_cast, c5, Nat.reduceAdd, Nat.reduceSub, Nat.reduceMul, Nat.reduceBEq, Int.reduceToNat, Int.reduceNeg, Int.reduceLE, Int.reduceLT, Int.reduceBEq, Int.reduceBNe, Int.reduceEq, eq_self, reduceCtorEq]
  refine callW_eq _ _ (Homes_b1 N O false false _ (u ++ v) h (by omega) hvm) ?_
  simp -implicitDefEqProofs (maxSteps := 4000000) (disch := omega) only [push_cast, c5, Nat.reduceAdd, Nat.reduceSub, Nat.reduceMul, Nat.reduceBEq, Int.reduceToNat, Int.reduceNeg, Int.reduceLE, Int.reduceLT, Int.reduceBEq, Int.reduceBNe, Int.reduceEq, eq_self, reduceCtorEq]
  refine callW_eq _ _ (Tells_b1 N O false false _ (u ++ v) h (by omega) hvm) ?_
  simp -implicitDefEqProofs (maxSteps := 4000000) (disch := omega) only [push_cast, c5, Nat.reduceAdd, Nat.reduceSub, Nat.reduceMul, Nat.reduceBEq, Int.reduceToNat, Int.reduceNeg, Int.reduceLE, Int.reduceLT, Int.reduceBEq, Int.reduceBNe, Int.reduceEq, eq_self, reduceCtorEq]
  refine callW_eq _ _ (f13) ?_
  simp -implicitDefEqProofs (maxSteps := 4000000) (disch := omega) only [push_cast, c5, Nat.reduceAdd, Nat.reduceSub, Nat.reduceMul, Nat.reduceBEq, Int.reduceToNat, Int.reduceNeg, Int.reduceLE, Int.reduceLT, Int.reduceBEq, Int.reduceBNe, Int.reduceEq, eq_self, reduceCtorEq]
 | true =>
  have hV := vmB_iff.1 hvm
  cases hW : wordB (N.getD 0 []).length u with
  | false =>
   have hW2 := wordB_app (v := v) (by omega) hW
   refine callW_eq _ _ (Homes_b2 N O false false false u h (by omega) hvm hW) ?_
   simp -implicitDefEqProofs (maxSteps := 4000000) (disch := omega) only [push_cast, c5, Nat.reduceAdd, Nat.reduceSub, Nat.reduceMul, Nat.reduceBEq, Int.reduceToNat, Int.reduceNeg, Int.reduceLE, Int.reduceLT, Int.reduceBEq, Int.reduceBNe, Int.reduceEq, eq_self, reduceCtorEq]
   refine callW_eq _ _ (Tells_b2 N O false false false u h (by omega) hvm hW) ?_
   simp -implicitDefEqProofs (maxSteps := 4000000) (disch := omega) only [push_cast, c5, Nat.reduceAdd, Nat.reduceSub, Nat.reduceMul, Nat.reduceBEq, Int.reduceToNat, Int.reduceNeg, Int.reduceLE, Int.reduceLT, Int.reduceBEq, Int.reduceBNe, Int.reduceEq, eq_self, reduceCtorEq]
   refine callW_eq _ _ (Homes_b2 N O false false _ (u ++ v) h (by omega) hvm hW2) ?_
   simp -implicitDefEqProofs (maxSteps := 4000000) (disch := omega) only [push_cast, c5, Nat.reduceAdd, Nat.reduceSub, Nat.reduceMul, Nat.reduceBEq, Int.reduceToNat, Int.reduceNeg, Int.reduceLE, Int.reduceLT, Int.reduceBEq, Int.reduceBNe, Int.reduceEq, eq_self, reduceCtorEq]
   refine callW_eq _ _ (Tells_b2 N O false false _ (u ++ v) h (by omega) hvm hW2) ?_
   simp -implicitDefEqProofs (maxSteps := 4000000) (disch := omega) only [push_cast, c5, Nat.reduceAdd, Nat.reduceSub, Nat.reduceMul, Nat.reduceBEq, Int.reduceToNat, Int.reduceNeg, Int.reduceLE, Int.reduceLT, Int.reduceBEq, Int.reduceBNe, Int.reduceEq, eq_self, reduceCtorEq]
   refine callW_eq _ _ (f13) ?_
   simp -implicitDefEqProofs (maxSteps := 4000000) (disch := omega) only [push_cast, c5, Nat.reduceAdd, Nat.reduceSub, Nat.reduceMul, Nat.reduceBEq, Int.reduceToNat, Int.reduceNeg, Int.reduceLE, Int.reduceLT, Int.reduceBEq, Int.reduceBNe, Int.reduceEq, eq_self, reduceCtorEq]
  | true =>
   have hu2 := (wordB_iff.1 hW).2
   have hth : telB N O u = true → homB N O u = true := fun g => (homB_iff hV hu2).2 (telW_hom ((telB_iff hV hu2).1 g))
   cases hW2 : wordB (N.getD 0 []).length (u ++ v) with
   | false =>
    refine callW_eq _ _ (Homes_ok N O false false false u h (by omega) hvm hW) ?_
    simp -implicitDefEqProofs (maxSteps := 4000000) (disch := omega) only [push_cast, c5, Nat.reduceAdd, Nat.reduceSub, Nat.reduceMul, Nat.reduceBEq, Int.reduceToNat, Int.reduceNeg, Int.reduceLE, Int.reduceLT, Int.reduceBEq, Int.reduceBNe, Int.reduceEq, eq_self, reduceCtorEq]
    refine callW_eq _ _ (Tells_ok N O false false false u h (by omega) hvm hW) ?_
    simp -implicitDefEqProofs (maxSteps := 4000000) (disch := omega) only [push_cast, c5, Nat.reduceAdd, Nat.reduceSub, Nat.reduceMul, Nat.reduceBEq, Int.reduceToNat, Int.reduceNeg, Int.reduceLE, Int.reduceLT, Int.reduceBEq, Int.reduceBNe, Int.reduceEq, eq_self, reduceCtorEq]
    refine callW_eq _ _ (Homes_b2 N O false false _ (u ++ v) h (by omega) hvm hW2) ?_
    simp -implicitDefEqProofs (maxSteps := 4000000) (disch := omega) only [push_cast, c5, Nat.reduceAdd, Nat.reduceSub, Nat.reduceMul, Nat.reduceBEq, Int.reduceToNat, Int.reduceNeg, Int.reduceLE, Int.reduceLT, Int.reduceBEq, Int.reduceBNe, Int.reduceEq, eq_self, reduceCtorEq]
    refine callW_eq _ _ (Tells_b2 N O false false _ (u ++ v) h (by omega) hvm hW2) ?_
    simp -implicitDefEqProofs (maxSteps := 4000000) (disch := omega) only [push_cast, c5, Nat.reduceAdd, Nat.reduceSub, Nat.reduceMul, Nat.reduceBEq, Int.reduceToNat, Int.reduceNeg, Int.reduceLE, Int.reduceLT, Int.reduceBEq, Int.reduceBNe, Int.reduceEq, eq_self, reduceCtorEq]
    refine ⟨fun g1 => ⟨fun g2 => ?_, fun g2 => ?_⟩, fun g1 => ?_⟩
    ·rw [hth g1] at g2; cases g2
    ·refine callW_eq _ _ (f13) ?_
     simp -implicitDefEqProofs (maxSteps := 4000000) (disch := omega) only [push_cast, c5, Nat.reduceAdd, Nat.reduceSub, Nat.reduceMul, Nat.reduceBEq, Int.reduceToNat, Int.reduceNeg, Int.reduceLE, Int.reduceLT, Int.reduceBEq, Int.reduceBNe, Int.reduceEq, eq_self, reduceCtorEq]
    ·refine callW_eq _ _ (f13) ?_
     simp -implicitDefEqProofs (maxSteps := 4000000) (disch := omega) only [push_cast, c5, Nat.reduceAdd, Nat.reduceSub, Nat.reduceMul, Nat.reduceBEq, Int.reduceToNat, Int.reduceNeg, Int.reduceLE, Int.reduceLT, Int.reduceBEq, Int.reduceBNe, Int.reduceEq, eq_self, reduceCtorEq]
   | true =>
    have hv2 := (wordB_iff.1 hW2).2
    have hth2 : telB N O (u ++ v) = true → homB N O (u ++ v) = true := fun g => (homB_iff hV hv2).2 (telW_hom ((telB_iff hV hv2).1 g))
    have hhh : homB N O u = true → homB N O (u ++ v) = true := fun g => (homB_iff hV hv2).2 (homW_app ((homB_iff hV hu2).1 g))
    have htt : telB N O u = true → telB N O (u ++ v) = true := fun g => (telB_iff hV hv2).2 (telW_app ((telB_iff hV hu2).1 g))
    have hcomb : (homB N O u = true ∧ telB N O u = true ∧ homB N O (u ++ v) = true ∧ telB N O (u ++ v) = true) ∨ (homB N O u = true ∧ telB N O u = false ∧ homB N O (u ++ v) = true ∧ telB N O (u ++ v) = true) ∨ (homB N O u = false ∧ telB N O u = false ∧ homB N O (u ++ v) = true ∧ telB N O (u ++ v) = true) ∨ (homB N O u = true ∧ telB N O u = false ∧ homB N O (u ++ v) = true ∧ telB N O (u ++ v) = false) ∨ (homB N O u = false ∧ telB N O u = false ∧ homB N O (u ++ v) = true ∧ telB N O (u ++ v) = false) ∨ (homB N O u = false ∧ telB N O u = false ∧ homB N O (u ++ v) = false ∧ telB N O (u ++ v) = false) := by
     generalize homB N O u = b1 at *
     generalize telB N O u = b2 at *
     generalize homB N O (u ++ v) = b3 at *
     generalize telB N O (u ++ v) = b4 at *
     cases b1 <;> cases b2 <;> cases b3 <;> cases b4 <;> simp at * 
    have k1 := Homes_ok N O false false false u h (by omega) hvm hW
    have k2 := Tells_ok N O false false false u h (by omega) hvm hW
    have k3 := fun y => Homes_ok N O false false y (u ++ v) h (by omega) hvm hW2
    have k4 := fun y => Tells_ok N O false false y (u ++ v) h (by omega) hvm hW2
    clear hth hth2 hhh htt
    rcases hcomb with ⟨c1, c2, c3, c4⟩ | ⟨c1, c2, c3, c4⟩ | ⟨c1, c2, c3, c4⟩ | ⟨c1, c2, c3, c4⟩ | ⟨c1, c2, c3, c4⟩ | ⟨c1, c2, c3, c4⟩
    ·simp only [c1, c2, c3, c4] at k1 k2 k3 k4
     refine callW_eq _ _ (k1) ?_
     simp -implicitDefEqProofs (maxSteps := 4000000) (disch := omega) only [push_cast, c5, Nat.reduceAdd, Nat.reduceSub, Nat.reduceMul, Nat.reduceBEq, Int.reduceToNat, Int.reduceNeg, Int.reduceLE, Int.reduceLT, Int.reduceBEq, Int.reduceBNe, Int.reduceEq, eq_self, reduceCtorEq]
     refine callW_eq _ _ (k2) ?_
     simp -implicitDefEqProofs (maxSteps := 4000000) (disch := omega) only [push_cast, c5, Nat.reduceAdd, Nat.reduceSub, Nat.reduceMul, Nat.reduceBEq, Int.reduceToNat, Int.reduceNeg, Int.reduceLE, Int.reduceLT, Int.reduceBEq, Int.reduceBNe, Int.reduceEq, eq_self, reduceCtorEq]
     refine callW_eq _ _ (k3 _) ?_
     simp -implicitDefEqProofs (maxSteps := 4000000) (disch := omega) only [push_cast, c5, Nat.reduceAdd, Nat.reduceSub, Nat.reduceMul, Nat.reduceBEq, Int.reduceToNat, Int.reduceNeg, Int.reduceLE, Int.reduceLT, Int.reduceBEq, Int.reduceBNe, Int.reduceEq, eq_self, reduceCtorEq]
     refine callW_eq _ _ (k4 _) ?_
     simp -implicitDefEqProofs (maxSteps := 4000000) (disch := omega) only [push_cast, c5, Nat.reduceAdd, Nat.reduceSub, Nat.reduceMul, Nat.reduceBEq, Int.reduceToNat, Int.reduceNeg, Int.reduceLE, Int.reduceLT, Int.reduceBEq, Int.reduceBNe, Int.reduceEq, eq_self, reduceCtorEq]
     refine callW_eq _ _ (f13) ?_
     simp -implicitDefEqProofs (maxSteps := 4000000) (disch := omega) only [push_cast, c5, Nat.reduceAdd, Nat.reduceSub, Nat.reduceMul, Nat.reduceBEq, Int.reduceToNat, Int.reduceNeg, Int.reduceLE, Int.reduceLT, Int.reduceBEq, Int.reduceBNe, Int.reduceEq, eq_self, reduceCtorEq]
    ·simp only [c1, c2, c3, c4] at k1 k2 k3 k4
     refine callW_eq _ _ (k1) ?_
     simp -implicitDefEqProofs (maxSteps := 4000000) (disch := omega) only [push_cast, c5, Nat.reduceAdd, Nat.reduceSub, Nat.reduceMul, Nat.reduceBEq, Int.reduceToNat, Int.reduceNeg, Int.reduceLE, Int.reduceLT, Int.reduceBEq, Int.reduceBNe, Int.reduceEq, eq_self, reduceCtorEq]
     refine callW_eq _ _ (k2) ?_
     simp -implicitDefEqProofs (maxSteps := 4000000) (disch := omega) only [push_cast, c5, Nat.reduceAdd, Nat.reduceSub, Nat.reduceMul, Nat.reduceBEq, Int.reduceToNat, Int.reduceNeg, Int.reduceLE, Int.reduceLT, Int.reduceBEq, Int.reduceBNe, Int.reduceEq, eq_self, reduceCtorEq]
     refine callW_eq _ _ (k3 _) ?_
     simp -implicitDefEqProofs (maxSteps := 4000000) (disch := omega) only [push_cast, c5, Nat.reduceAdd, Nat.reduceSub, Nat.reduceMul, Nat.reduceBEq, Int.reduceToNat, Int.reduceNeg, Int.reduceLE, Int.reduceLT, Int.reduceBEq, Int.reduceBNe, Int.reduceEq, eq_self, reduceCtorEq]
     refine callW_eq _ _ (k4 _) ?_
     simp -implicitDefEqProofs (maxSteps := 4000000) (disch := omega) only [push_cast, c5, Nat.reduceAdd, Nat.reduceSub, Nat.reduceMul, Nat.reduceBEq, Int.reduceToNat, Int.reduceNeg, Int.reduceLE, Int.reduceLT, Int.reduceBEq, Int.reduceBNe, Int.reduceEq, eq_self, reduceCtorEq]
     refine callW_eq _ _ (f13) ?_
     simp -implicitDefEqProofs (maxSteps := 4000000) (disch := omega) only [push_cast, c5, Nat.reduceAdd, Nat.reduceSub, Nat.reduceMul, Nat.reduceBEq, Int.reduceToNat, Int.reduceNeg, Int.reduceLE, Int.reduceLT, Int.reduceBEq, Int.reduceBNe, Int.reduceEq, eq_self, reduceCtorEq]
    ·simp only [c1, c2, c3, c4] at k1 k2 k3 k4
     refine callW_eq _ _ (k1) ?_
     simp -implicitDefEqProofs (maxSteps := 4000000) (disch := omega) only [push_cast, c5, Nat.reduceAdd, Nat.reduceSub, Nat.reduceMul, Nat.reduceBEq, Int.reduceToNat, Int.reduceNeg, Int.reduceLE, Int.reduceLT, Int.reduceBEq, Int.reduceBNe, Int.reduceEq, eq_self, reduceCtorEq]
     refine callW_eq _ _ (k2) ?_
     simp -implicitDefEqProofs (maxSteps := 4000000) (disch := omega) only [push_cast, c5, Nat.reduceAdd, Nat.reduceSub, Nat.reduceMul, Nat.reduceBEq, Int.reduceToNat, Int.reduceNeg, Int.reduceLE, Int.reduceLT, Int.reduceBEq, Int.reduceBNe, Int.reduceEq, eq_self, reduceCtorEq]
     refine callW_eq _ _ (k3 _) ?_
     simp -implicitDefEqProofs (maxSteps := 4000000) (disch := omega) only [push_cast, c5, Nat.reduceAdd, Nat.reduceSub, Nat.reduceMul, Nat.reduceBEq, Int.reduceToNat, Int.reduceNeg, Int.reduceLE, Int.reduceLT, Int.reduceBEq, Int.reduceBNe, Int.reduceEq, eq_self, reduceCtorEq]
     refine callW_eq _ _ (k4 _) ?_
     simp -implicitDefEqProofs (maxSteps := 4000000) (disch := omega) only [push_cast, c5, Nat.reduceAdd, Nat.reduceSub, Nat.reduceMul, Nat.reduceBEq, Int.reduceToNat, Int.reduceNeg, Int.reduceLE, Int.reduceLT, Int.reduceBEq, Int.reduceBNe, Int.reduceEq, eq_self, reduceCtorEq]
     refine callW_eq _ _ (f13) ?_
     simp -implicitDefEqProofs (maxSteps := 4000000) (disch := omega) only [push_cast, c5, Nat.reduceAdd, Nat.reduceSub, Nat.reduceMul, Nat.reduceBEq, Int.reduceToNat, Int.reduceNeg, Int.reduceLE, Int.reduceLT, Int.reduceBEq, Int.reduceBNe, Int.reduceEq, eq_self, reduceCtorEq]
    ·simp only [c1, c2, c3, c4] at k1 k2 k3 k4
     refine callW_eq _ _ (k1) ?_
     simp -implicitDefEqProofs (maxSteps := 4000000) (disch := omega) only [push_cast, c5, Nat.reduceAdd, Nat.reduceSub, Nat.reduceMul, Nat.reduceBEq, Int.reduceToNat, Int.reduceNeg, Int.reduceLE, Int.reduceLT, Int.reduceBEq, Int.reduceBNe, Int.reduceEq, eq_self, reduceCtorEq]
     refine callW_eq _ _ (k2) ?_
     simp -implicitDefEqProofs (maxSteps := 4000000) (disch := omega) only [push_cast, c5, Nat.reduceAdd, Nat.reduceSub, Nat.reduceMul, Nat.reduceBEq, Int.reduceToNat, Int.reduceNeg, Int.reduceLE, Int.reduceLT, Int.reduceBEq, Int.reduceBNe, Int.reduceEq, eq_self, reduceCtorEq]
     refine callW_eq _ _ (k3 _) ?_
     simp -implicitDefEqProofs (maxSteps := 4000000) (disch := omega) only [push_cast, c5, Nat.reduceAdd, Nat.reduceSub, Nat.reduceMul, Nat.reduceBEq, Int.reduceToNat, Int.reduceNeg, Int.reduceLE, Int.reduceLT, Int.reduceBEq, Int.reduceBNe, Int.reduceEq, eq_self, reduceCtorEq]
     refine callW_eq _ _ (k4 _) ?_
     simp -implicitDefEqProofs (maxSteps := 4000000) (disch := omega) only [push_cast, c5, Nat.reduceAdd, Nat.reduceSub, Nat.reduceMul, Nat.reduceBEq, Int.reduceToNat, Int.reduceNeg, Int.reduceLE, Int.reduceLT, Int.reduceBEq, Int.reduceBNe, Int.reduceEq, eq_self, reduceCtorEq]
     refine callW_eq _ _ (f13) ?_
     simp -implicitDefEqProofs (maxSteps := 4000000) (disch := omega) only [push_cast, c5, Nat.reduceAdd, Nat.reduceSub, Nat.reduceMul, Nat.reduceBEq, Int.reduceToNat, Int.reduceNeg, Int.reduceLE, Int.reduceLT, Int.reduceBEq, Int.reduceBNe, Int.reduceEq, eq_self, reduceCtorEq]
    ·simp only [c1, c2, c3, c4] at k1 k2 k3 k4
     refine callW_eq _ _ (k1) ?_
     simp -implicitDefEqProofs (maxSteps := 4000000) (disch := omega) only [push_cast, c5, Nat.reduceAdd, Nat.reduceSub, Nat.reduceMul, Nat.reduceBEq, Int.reduceToNat, Int.reduceNeg, Int.reduceLE, Int.reduceLT, Int.reduceBEq, Int.reduceBNe, Int.reduceEq, eq_self, reduceCtorEq]
     refine callW_eq _ _ (k2) ?_
     simp -implicitDefEqProofs (maxSteps := 4000000) (disch := omega) only [push_cast, c5, Nat.reduceAdd, Nat.reduceSub, Nat.reduceMul, Nat.reduceBEq, Int.reduceToNat, Int.reduceNeg, Int.reduceLE, Int.reduceLT, Int.reduceBEq, Int.reduceBNe, Int.reduceEq, eq_self, reduceCtorEq]
     refine callW_eq _ _ (k3 _) ?_
     simp -implicitDefEqProofs (maxSteps := 4000000) (disch := omega) only [push_cast, c5, Nat.reduceAdd, Nat.reduceSub, Nat.reduceMul, Nat.reduceBEq, Int.reduceToNat, Int.reduceNeg, Int.reduceLE, Int.reduceLT, Int.reduceBEq, Int.reduceBNe, Int.reduceEq, eq_self, reduceCtorEq]
     refine callW_eq _ _ (k4 _) ?_
     simp -implicitDefEqProofs (maxSteps := 4000000) (disch := omega) only [push_cast, c5, Nat.reduceAdd, Nat.reduceSub, Nat.reduceMul, Nat.reduceBEq, Int.reduceToNat, Int.reduceNeg, Int.reduceLE, Int.reduceLT, Int.reduceBEq, Int.reduceBNe, Int.reduceEq, eq_self, reduceCtorEq]
     refine callW_eq _ _ (f13) ?_
     simp -implicitDefEqProofs (maxSteps := 4000000) (disch := omega) only [push_cast, c5, Nat.reduceAdd, Nat.reduceSub, Nat.reduceMul, Nat.reduceBEq, Int.reduceToNat, Int.reduceNeg, Int.reduceLE, Int.reduceLT, Int.reduceBEq, Int.reduceBNe, Int.reduceEq, eq_self, reduceCtorEq]
    ·simp only [c1, c2, c3, c4] at k1 k2 k3 k4
     refine callW_eq _ _ (k1) ?_
     simp -implicitDefEqProofs (maxSteps := 4000000) (disch := omega) only [push_cast, c5, Nat.reduceAdd, Nat.reduceSub, Nat.reduceMul, Nat.reduceBEq, Int.reduceToNat, Int.reduceNeg, Int.reduceLE, Int.reduceLT, Int.reduceBEq, Int.reduceBNe, Int.reduceEq, eq_self, reduceCtorEq]
     refine callW_eq _ _ (k2) ?_
     simp -implicitDefEqProofs (maxSteps := 4000000) (disch := omega) only [push_cast, c5, Nat.reduceAdd, Nat.reduceSub, Nat.reduceMul, Nat.reduceBEq, Int.reduceToNat, Int.reduceNeg, Int.reduceLE, Int.reduceLT, Int.reduceBEq, Int.reduceBNe, Int.reduceEq, eq_self, reduceCtorEq]
     refine callW_eq _ _ (k3 _) ?_
     simp -implicitDefEqProofs (maxSteps := 4000000) (disch := omega) only [push_cast, c5, Nat.reduceAdd, Nat.reduceSub, Nat.reduceMul, Nat.reduceBEq, Int.reduceToNat, Int.reduceNeg, Int.reduceLE, Int.reduceLT, Int.reduceBEq, Int.reduceBNe, Int.reduceEq, eq_self, reduceCtorEq]
     refine callW_eq _ _ (k4 _) ?_
     simp -implicitDefEqProofs (maxSteps := 4000000) (disch := omega) only [push_cast, c5, Nat.reduceAdd, Nat.reduceSub, Nat.reduceMul, Nat.reduceBEq, Int.reduceToNat, Int.reduceNeg, Int.reduceLE, Int.reduceLT, Int.reduceBEq, Int.reduceBNe, Int.reduceEq, eq_self, reduceCtorEq]
     refine callW_eq _ _ (f13) ?_
     simp -implicitDefEqProofs (maxSteps := 4000000) (disch := omega) only [push_cast, c5, Nat.reduceAdd, Nat.reduceSub, Nat.reduceMul, Nat.reduceBEq, Int.reduceToNat, Int.reduceNeg, Int.reduceLE, Int.reduceLT, Int.reduceBEq, Int.reduceBNe, Int.reduceEq, eq_self, reduceCtorEq]
theorem lawHomeLonger (N O : List (List Int)) (u v : List Int) (hl : N.length ≤ 4611686018427387904) (_ : ∀ r ∈ N, r.length ≤ 4611686018427387904) (ho : O.length ≤ 4611686018427387904) (_ : ∀ r ∈ O, r.length ≤ 4611686018427387904) (hu : u.length ≤ 17592186044416) (hv : v.length ≤ 17592186044416) :
  ACall Try.prog 5 [.agg [.pay (.rows (N)) (false), .pay (.rows (O)) (false)], .pay (.ints .i64 u) false, .pay (.ints .i64 v) false] (fun r objs => r = .bool true ∧ objs = []) := f5 N O u v hl ho hu hv
end Go.AM
end

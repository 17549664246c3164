/-
  Contract of MealyTexts; conditions in each statement.
-/
import Derived.Test.YthgglfpklgjibaaDoorS8
set_option linter.unusedVariables false
set_option linter.unusedSimpArgs false
set_option linter.unusedSectionVars false

/-! text Ud16 -/
section
namespace Go.AM
open Go Go.Proofs
abbrev nbB (N O : List (List Int)) : Prop := (N.length ≤ 4611686018427387904 ∧ ∀ r ∈ N, r.length ≤ 4611686018427387904) ∧ O.length ≤ 4611686018427387904 ∧ ∀ r ∈ O, r.length ≤ 4611686018427387904
theorem tx_bad {N O : List (List Int)} (z z' : Bool) (hb : nbB N O) (hv : vmB N O = false) :
    ACall Tryd.prog 18 [.agg [.pay (.rows (N)) (z), .pay (.rows (O)) (z')]] (fun r objs => r = .tup [.str (bs []), .int .i64 1] ∧ objs = []) := by
  refine (f18 N O z z' hb.1.1 hb.1.2 hb.2.1 hb.2.2).mono ?_
  rintro r objs ⟨t, e, rfl, ⟨h, _⟩ | ⟨_, rfl, rfl⟩, rfl⟩
  · rw [hv] at h; cases h
  · exact ⟨rfl, rfl⟩
theorem tx_ok {N O : List (List Int)} (z z' : Bool) (hb : nbB N O) (hv : vmB N O = true) :
    ACall Tryd.prog 18 [.agg [.pay (.rows (N)) (z), .pay (.rows (O)) (z')]] (fun r objs => r = .tup [.str (bs (textM N O)), .int .i64 0] ∧ objs = []) := by
  refine (f18 N O z z' hb.1.1 hb.1.2 hb.2.1 hb.2.2).mono ?_
  rintro r objs ⟨t, e, rfl, ⟨_, rfl, rfl⟩ | ⟨h, _⟩, rfl⟩
  · exact ⟨rfl, rfl⟩
  · rw [hv] at h; cases h
/- mizmaze/mizmazelaw07.MealyTexts -/
def c4 : VCfg := ⟨⟨[], [], [], [0, 1, 2, 3, 4, 5, 6, 8, 17]⟩, [], [], []⟩
set_option maxHeartbeats 4000000 in
set_option maxRecDepth 100000 in
theorem f4 (N O : List (List Int)) (hl : N.length ≤ 4611686018427387904) (hl2 : O.length ≤ 4611686018427387904) :
    ACall Tryd.prog 4 [.agg [.pay (.rows (N)) (false), .pay (.rows (O)) (false)]] (fun r objs => r = .bool true ∧ objs = []) := by
  refine acall_intro (tyP_ok _) c4 2000 [.tmp 2] Tryd.func4 rfl (by rfl) rfl (by kernel_rfl) ?_
  unfold Tryd.f4
  simp (config := {implicitDefEqProofs := false, maxSteps := 4000000}) (disch := omega) only [push_cast, c4, Nat.reduceAdd, Nat.reduceSub, Nat.reduceMul, Nat.reduceBEq, Int.reduceToNat, Int.reduceNeg, Int.reduceLE, Int.reduceLT, Int.reduceBEq, Int.reduceBNe, Int.reduceEq, Bool.not_true, Bool.not_false, eq_self, reduceCtorEq]
  refine callW_rel (f11 N O false false hl hl2) ?_
  rintro R O' ⟨b, rfl, hb, rfl⟩
  simp (config := {implicitDefEqProofs := false, maxSteps := 4000000}) (disch := omega) only [push_cast, c4, Nat.reduceAdd, Nat.reduceSub, Nat.reduceMul, Nat.reduceBEq, Int.reduceToNat, Int.reduceNeg, Int.reduceLE, Int.reduceLT, Int.reduceBEq, Int.reduceBNe, Int.reduceEq, Bool.not_true, Bool.not_false, eq_self, reduceCtorEq]
  refine ⟨fun h => ?_, fun h => ?_⟩
  · refine callW_eq _ _ (f12) ?_
    simp (config := {implicitDefEqProofs := false, maxSteps := 4000000}) (disch := omega) only [push_cast, c4, Nat.reduceAdd, Nat.reduceSub, Nat.reduceMul, Nat.reduceBEq, Int.reduceToNat, Int.reduceNeg, Int.reduceLE, Int.reduceLT, Int.reduceBEq, Int.reduceBNe, Int.reduceEq, Bool.not_true, Bool.not_false, eq_self, reduceCtorEq]
  have hb := nb (hb h)
  cases hv : vmB N O with
  | false =>
    refine callW_eq _ _ (tx_bad false false hb hv) ?_
    simp (config := {implicitDefEqProofs := false, maxSteps := 4000000}) (disch := omega) only [push_cast, c4, Nat.reduceAdd, Nat.reduceSub, Nat.reduceMul, Nat.reduceBEq, Int.reduceToNat, Int.reduceNeg, Int.reduceLE, Int.reduceLT, Int.reduceBEq, Int.reduceBNe, Int.reduceEq, Bool.not_true, Bool.not_false, eq_self, reduceCtorEq]
    refine callW_eq _ _ (f14 N O false false hb.1.1 hb.1.2 hb.2.1 hb.2.2) ?_
    simp (config := {implicitDefEqProofs := false, maxSteps := 4000000}) (disch := omega) only [push_cast, c4, Nat.reduceAdd, Nat.reduceSub, Nat.reduceMul, Nat.reduceBEq, Int.reduceToNat, Int.reduceNeg, Int.reduceLE, Int.reduceLT, Int.reduceBEq, Int.reduceBNe, Int.reduceEq, Bool.not_true, Bool.not_false, eq_self, reduceCtorEq]
    refine ⟨fun _ => ?_, fun h => by rw [hv] at h; cases h⟩
    refine callW_eq _ _ (f12) ?_
    simp (config := {implicitDefEqProofs := false, maxSteps := 4000000}) (disch := omega) only [push_cast, c4, Nat.reduceAdd, Nat.reduceSub, Nat.reduceMul, Nat.reduceBEq, Int.reduceToNat, Int.reduceNeg, Int.reduceLE, Int.reduceLT, Int.reduceBEq, Int.reduceBNe, Int.reduceEq, Bool.not_true, Bool.not_false, eq_self, reduceCtorEq]
  | true =>
    have hV := vmB_iff.1 hv
    refine callW_eq _ _ (tx_ok false false hb hv) ?_
    simp (config := {implicitDefEqProofs := false, maxSteps := 4000000}) (disch := omega) only [push_cast, c4, Nat.reduceAdd, Nat.reduceSub, Nat.reduceMul, Nat.reduceBEq, Int.reduceToNat, Int.reduceNeg, Int.reduceLE, Int.reduceLT, Int.reduceBEq, Int.reduceBNe, Int.reduceEq, Bool.not_true, Bool.not_false, eq_self, reduceCtorEq]
    refine callW_eq _ _ (f14 N O false false hb.1.1 hb.1.2 hb.2.1 hb.2.2) ?_
    simp (config := {implicitDefEqProofs := false, maxSteps := 4000000}) (disch := omega) only [push_cast, c4, Nat.reduceAdd, Nat.reduceSub, Nat.reduceMul, Nat.reduceBEq, Int.reduceToNat, Int.reduceNeg, Int.reduceLE, Int.reduceLT, Int.reduceBEq, Int.reduceBNe, Int.reduceEq, Bool.not_true, Bool.not_false, eq_self, reduceCtorEq]
    refine ⟨fun h => (by rw [hv] at h; cases h), fun _ => ?_⟩
    refine callW_eq _ _ (f19 N O _ hV) ?_
    simp (config := {implicitDefEqProofs := false, maxSteps := 4000000}) (disch := omega) only [push_cast, c4, Nat.reduceAdd, Nat.reduceSub, Nat.reduceMul, Nat.reduceBEq, Int.reduceToNat, Int.reduceNeg, Int.reduceLE, Int.reduceLT, Int.reduceBEq, Int.reduceBNe, Int.reduceEq, Bool.not_true, Bool.not_false, eq_self, reduceCtorEq]
    refine callW_eq _ _ (f20 N O false false _ hV) ?_
    simp (config := {implicitDefEqProofs := false, maxSteps := 4000000}) (disch := omega) only [push_cast, c4, Nat.reduceAdd, Nat.reduceSub, Nat.reduceMul, Nat.reduceBEq, Int.reduceToNat, Int.reduceNeg, Int.reduceLE, Int.reduceLT, Int.reduceBEq, Int.reduceBNe, Int.reduceEq, Bool.not_true, Bool.not_false, eq_self, reduceCtorEq]
    refine callW_eq _ _ (f21 N O N O _ _ _ _ hb.1.1 hb.1.2 hb.2.1 hb.2.2) ?_
    simp (config := {implicitDefEqProofs := false, maxSteps := 4000000}) (disch := omega) only [push_cast, c4, Nat.reduceAdd, Nat.reduceSub, Nat.reduceMul, Nat.reduceBEq, Int.reduceToNat, Int.reduceNeg, Int.reduceLE, Int.reduceLT, Int.reduceBEq, Int.reduceBNe, Int.reduceEq, Bool.not_true, Bool.not_false, eq_self, reduceCtorEq]
    refine callW_eq _ _ (f12) ?_
    simp (config := {implicitDefEqProofs := false, maxSteps := 4000000}) (disch := omega) only [push_cast, c4, Nat.reduceAdd, Nat.reduceSub, Nat.reduceMul, Nat.reduceBEq, Int.reduceToNat, Int.reduceNeg, Int.reduceLE, Int.reduceLT, Int.reduceBEq, Int.reduceBNe, Int.reduceEq, Bool.not_true, Bool.not_false, eq_self, reduceCtorEq]
theorem lawMealyTexts (N O : List (List Int)) (hl : N.length ≤ 4611686018427387904) (_ : ∀ r ∈ N, r.length ≤ 4611686018427387904) (ho : O.length ≤ 4611686018427387904) (_ : ∀ r ∈ O, r.length ≤ 4611686018427387904) :
    ACall Tryd.prog 4 [.agg [.pay (.rows (N)) (false), .pay (.rows (O)) (false)]] (fun r objs => r = .bool true ∧ objs = []) := f4 N O hl ho
end Go.AM
end

/-
  Contract of MealyEqual; conditions in each statement.
-/
import Derived.Test.YthgglfpklgjibaaDoorS10
set_option linter.unusedVariables false
set_option linter.unusedSimpArgs false
set_option linter.unusedSectionVars false

/-! text Ud18 -/
section
namespace Go.AM
open Go Go.Proofs
theorem eq_bad {N O M Q : List (List Int)} (z z' u u' : Bool) (x y : Int) (hb : nbB N O) (hc : nbB M Q) (hv : ¬ (vmB N O = true ∧ vmB M Q = true)) :
    ACall Tryd.prog 23 [.agg [.pay (.rows (N)) (z), .pay (.rows (O)) (z')], .int .i64 x, .agg [.pay (.rows (M)) (u), .pay (.rows (Q)) (u')], .int .i64 y] (fun r objs => ∃ nz, r = .tup [.bool false, .pay (.ints .i64 []) nz, .int .i64 1] ∧ objs = []) := by
  refine (f23 N O M Q z z' u u' x y hb.1.1 hb.1.2 hb.2.1 hb.2.2 hc.1.1 hc.1.2 hc.2.1 hc.2.2).mono ?_
  rintro r objs ⟨is, w, e, nz, ⟨_, rfl, rfl, rfl⟩ | ⟨h, _⟩ | ⟨h, _⟩, rfl, rfl⟩
  · exact ⟨nz, rfl, rfl⟩
  · exact absurd h hv
  · exact absurd h hv
theorem eq_out {N O M Q : List (List Int)} (z z' u u' : Bool) (x y : Int) (hb : nbB N O) (hc : nbB M Q) (hv : vmB N O = true ∧ vmB M Q = true)
    (hx : ¬ ((0 ≤ x ∧ x < N.length) ∧ (0 ≤ y ∧ y < M.length) ∧ (N.getD 0 []).length = (M.getD 0 []).length)) :
    ACall Tryd.prog 23 [.agg [.pay (.rows (N)) (z), .pay (.rows (O)) (z')], .int .i64 x, .agg [.pay (.rows (M)) (u), .pay (.rows (Q)) (u')], .int .i64 y] (fun r objs => ∃ nz, r = .tup [.bool false, .pay (.ints .i64 []) nz, .int .i64 2] ∧ objs = []) := by
  refine (f23 N O M Q z z' u u' x y hb.1.1 hb.1.2 hb.2.1 hb.2.2 hc.1.1 hc.1.2 hc.2.1 hc.2.2).mono ?_
  rintro r objs ⟨is, w, e, nz, ⟨h, _⟩ | ⟨_, _, rfl, rfl, rfl⟩ | ⟨_, h, _⟩, rfl, rfl⟩
  · exact absurd hv h
  · exact ⟨nz, rfl, rfl⟩
  · exact absurd h hx
theorem eq_in {N O M Q : List (List Int)} (z z' u u' : Bool) (x y : Int) (hb : nbB N O) (hc : nbB M Q) (hv : vmB N O = true ∧ vmB M Q = true)
    (hx : (0 ≤ x ∧ x < N.length) ∧ (0 ≤ y ∧ y < M.length) ∧ (N.getD 0 []).length = (M.getD 0 []).length) :
    ACall Tryd.prog 23 [.agg [.pay (.rows (N)) (z), .pay (.rows (O)) (z')], .int .i64 x, .agg [.pay (.rows (M)) (u), .pay (.rows (Q)) (u')], .int .i64 y] (fun r objs => ∃ is w nz, TellR N O M Q x y (N.getD 0 []).length w (!is) ∧ r = .tup [.bool is, .pay (.ints .i64 w) nz, .int .i64 0] ∧ objs = []) := by
  refine (f23 N O M Q z z' u u' x y hb.1.1 hb.1.2 hb.2.1 hb.2.2 hc.1.1 hc.1.2 hc.2.1 hc.2.2).mono ?_
  rintro r objs ⟨is, w, e, nz, ⟨h, _⟩ | ⟨_, h, _⟩ | ⟨_, _, h, rfl⟩, rfl, rfl⟩
  · exact absurd hv h
  · exact absurd hx h
  · exact ⟨is, w, nz, h, rfl, rfl⟩
/- mizmaze/mizmazelaw07.MealyEqual -/
def c6 : VCfg := ⟨⟨[], [], [], [0, 1, 2, 3, 4, 6, 8, 9, 10, 11, 12, 13, 19, 30, 53]⟩, [(6, (.op 0 .loose (.op 1 .loose (.op 2 .eff (.op 3 .loose (.op 4 .loose (.op 5 .loose (.op 6 .loose (.op 7 .eff (.op 8 .loose (.op 9 .loose (.op 10 .loose (.op 11 .loose (.op 13 .loose (.op 12 .eff (.op 14 .eff (.op 15 .loose (.op 16 .loose (.op 17 .loose .nil)))))))))))))))))))], [], []⟩
set_option maxHeartbeats 8000000 in
set_option maxRecDepth 100000 in
theorem f6 (N O : List (List Int)) (x : Int) (M Q : List (List Int)) (y : Int) (hl : N.length ≤ 4611686018427387904) (hl2 : O.length ≤ 4611686018427387904) (hm : M.length ≤ 4611686018427387904) (hm2 : Q.length ≤ 4611686018427387904) :
    ACall Tryd.prog 6 [.agg [.pay (.rows (N)) (false), .pay (.rows (O)) (false)], .int .i64 x, .agg [.pay (.rows (M)) (false), .pay (.rows (Q)) (false)], .int .i64 y] (fun r objs => r = .bool true ∧ objs = []) := by
  refine acall_intro (tyP_ok _) c6 2000 [.tmp 8] Tryd.func6 rfl (by rfl) rfl (by kernel_rfl) ?_
  unfold Tryd.f6
  simp (config := {implicitDefEqProofs := false, maxSteps := 4000000}) (disch := omega) only [push_cast, c6, Nat.reduceAdd, Nat.reduceSub, Nat.reduceMul, Nat.reduceBEq, Int.reduceToNat, Int.reduceNeg, Int.reduceLE, Int.reduceLT, Int.reduceBEq, Int.reduceBNe, Int.reduceEq, Bool.not_true, Bool.not_false, eq_self, reduceCtorEq]
  refine callW_rel (f11 N O false false hl hl2) ?_
  rintro R O' ⟨b, rfl, hb, rfl⟩
  simp (config := {implicitDefEqProofs := false, maxSteps := 4000000}) (disch := omega) only [push_cast, c6, Nat.reduceAdd, Nat.reduceSub, Nat.reduceMul, Nat.reduceBEq, Int.reduceToNat, Int.reduceNeg, Int.reduceLE, Int.reduceLT, Int.reduceBEq, Int.reduceBNe, Int.reduceEq, Bool.not_true, Bool.not_false, eq_self, reduceCtorEq]
  refine ⟨fun h => ?_, fun h => ?_⟩
  · refine callW_eq _ _ (f12) ?_
    simp (config := {implicitDefEqProofs := false, maxSteps := 4000000}) (disch := omega) only [push_cast, c6, Nat.reduceAdd, Nat.reduceSub, Nat.reduceMul, Nat.reduceBEq, Int.reduceToNat, Int.reduceNeg, Int.reduceLE, Int.reduceLT, Int.reduceBEq, Int.reduceBNe, Int.reduceEq, Bool.not_true, Bool.not_false, eq_self, reduceCtorEq]
  have hb := nb (hb h)
  refine callW_rel (f11 M Q false false hm hm2) ?_
  rintro R O' ⟨b2, rfl, hc, rfl⟩
  simp (config := {implicitDefEqProofs := false, maxSteps := 4000000}) (disch := omega) only [push_cast, c6, Nat.reduceAdd, Nat.reduceSub, Nat.reduceMul, Nat.reduceBEq, Int.reduceToNat, Int.reduceNeg, Int.reduceLE, Int.reduceLT, Int.reduceBEq, Int.reduceBNe, Int.reduceEq, Bool.not_true, Bool.not_false, eq_self, reduceCtorEq]
  refine ⟨fun h => ?_, fun h => ?_⟩
  · refine callW_eq _ _ (f12) ?_
    simp (config := {implicitDefEqProofs := false, maxSteps := 4000000}) (disch := omega) only [push_cast, c6, Nat.reduceAdd, Nat.reduceSub, Nat.reduceMul, Nat.reduceBEq, Int.reduceToNat, Int.reduceNeg, Int.reduceLE, Int.reduceLT, Int.reduceBEq, Int.reduceBNe, Int.reduceEq, Bool.not_true, Bool.not_false, eq_self, reduceCtorEq]
  have hc := nb (hc h)
  by_cases hv : vmB N O = true ∧ vmB M Q = true
  · have hV := vmB_iff.1 hv.1
    have hW := vmB_iff.1 hv.2
    have hn := hV.v.n1
    have hm := hW.v.n1
    by_cases hx : (0 ≤ x ∧ x < N.length) ∧ (0 ≤ y ∧ y < M.length) ∧ (N.getD 0 []).length = (M.getD 0 []).length
    · refine callW_rel (eq_in false false false false x y hb hc hv hx) ?_
      rintro R O' ⟨is, w, nz, hT, rfl, rfl⟩
      simp (config := {implicitDefEqProofs := false, maxSteps := 4000000}) (disch := omega) only [push_cast, c6, Nat.reduceAdd, Nat.reduceSub, Nat.reduceMul, Nat.reduceBEq, Int.reduceToNat, Int.reduceNeg, Int.reduceLE, Int.reduceLT, Int.reduceBEq, Int.reduceBNe, Int.reduceEq, Bool.not_true, Bool.not_false, eq_self, reduceCtorEq]
      refine callW_eq _ _ (f14 N O false false hb.1.1 hb.1.2 hb.2.1 hb.2.2) ?_
      simp (config := {implicitDefEqProofs := false, maxSteps := 4000000}) (disch := omega) only [push_cast, c6, Nat.reduceAdd, Nat.reduceSub, Nat.reduceMul, Nat.reduceBEq, Int.reduceToNat, Int.reduceNeg, Int.reduceLE, Int.reduceLT, Int.reduceBEq, Int.reduceBNe, Int.reduceEq, Bool.not_true, Bool.not_false, eq_self, reduceCtorEq]
      refine ⟨fun h => (by rw [hv.1] at h; cases h), fun _ => ?_⟩
      refine callW_eq _ _ (f14 M Q false false hc.1.1 hc.1.2 hc.2.1 hc.2.2) ?_
      simp (config := {implicitDefEqProofs := false, maxSteps := 4000000}) (disch := omega) only [push_cast, c6, Nat.reduceAdd, Nat.reduceSub, Nat.reduceMul, Nat.reduceBEq, Int.reduceToNat, Int.reduceNeg, Int.reduceLE, Int.reduceLT, Int.reduceBEq, Int.reduceBNe, Int.reduceEq, Bool.not_true, Bool.not_false, eq_self, reduceCtorEq]
      refine ⟨fun h => (by rw [hv.2] at h; cases h), fun _ => ?_⟩
      refine callW_eq _ _ (f15 N O false false x) ?_
      simp (config := {implicitDefEqProofs := false, maxSteps := 4000000}) (disch := omega) only [push_cast, c6, Nat.reduceAdd, Nat.reduceSub, Nat.reduceMul, Nat.reduceBEq, Int.reduceToNat, Int.reduceNeg, Int.reduceLE, Int.reduceLT, Int.reduceBEq, Int.reduceBNe, Int.reduceEq, Bool.not_true, Bool.not_false, eq_self, reduceCtorEq]
      refine ⟨fun h => absurd hx.1 h, fun _ => ?_⟩
      refine callW_eq _ _ (f15 M Q false false y) ?_
      simp (config := {implicitDefEqProofs := false, maxSteps := 4000000}) (disch := omega) only [push_cast, c6, Nat.reduceAdd, Nat.reduceSub, Nat.reduceMul, Nat.reduceBEq, Int.reduceToNat, Int.reduceNeg, Int.reduceLE, Int.reduceLT, Int.reduceBEq, Int.reduceBNe, Int.reduceEq, Bool.not_true, Bool.not_false, eq_self, reduceCtorEq]
      refine ⟨fun h => absurd hx.2.1 h, fun _ => ?_⟩
      refine callW_eq _ _ (f24 N O false false (by omega)) ?_
      simp (config := {implicitDefEqProofs := false, maxSteps := 4000000}) (disch := omega) only [push_cast, c6, Nat.reduceAdd, Nat.reduceSub, Nat.reduceMul, Nat.reduceBEq, Int.reduceToNat, Int.reduceNeg, Int.reduceLE, Int.reduceLT, Int.reduceBEq, Int.reduceBNe, Int.reduceEq, Bool.not_true, Bool.not_false, eq_self, reduceCtorEq]
      refine callW_eq _ _ (f24 M Q false false (by omega)) ?_
      simp (config := {implicitDefEqProofs := false, maxSteps := 4000000}) (disch := omega) only [push_cast, c6, Nat.reduceAdd, Nat.reduceSub, Nat.reduceMul, Nat.reduceBEq, Int.reduceToNat, Int.reduceNeg, Int.reduceLE, Int.reduceLT, Int.reduceBEq, Int.reduceBNe, Int.reduceEq, Bool.not_true, Bool.not_false, eq_self, reduceCtorEq]
      refine ⟨fun h => h hx.2.2, fun hk => ?_⟩
      have hW' : VM M Q (N.getD 0 []).length := by rw [hk]; exact hW
      refine callW_rel (f16 N O M Q false false false false x y _ hV hW' hx.1 hx.2.1) ?_
      rintro R O' ⟨w2, b3, nz2, hT2, rfl, rfl⟩
      simp (config := {implicitDefEqProofs := false, maxSteps := 4000000}) (disch := omega) only [push_cast, c6, Nat.reduceAdd, Nat.reduceSub, Nat.reduceMul, Nat.reduceBEq, Int.reduceToNat, Int.reduceNeg, Int.reduceLE, Int.reduceLT, Int.reduceBEq, Int.reduceBNe, Int.reduceEq, Bool.not_true, Bool.not_false, eq_self, reduceCtorEq]
      obtain ⟨rfl, rfl⟩ := hT2.uniq hT
      have hwl := hT.sm hV hW' hx.1 hx.2.1
      refine ⟨fun _ => ?_, fun h => absurd (by cases is <;> rfl) h⟩
      refine callW_eq _ _ (f17 w2 w2 _ _ (by omega)) ?_
      simp (config := {implicitDefEqProofs := false, maxSteps := 4000000}) (disch := omega) only [push_cast, c6, Nat.reduceAdd, Nat.reduceSub, Nat.reduceMul, Nat.reduceBEq, Int.reduceToNat, Int.reduceNeg, Int.reduceLE, Int.reduceLT, Int.reduceBEq, Int.reduceBNe, Int.reduceEq, Bool.not_true, Bool.not_false, eq_self, reduceCtorEq]
      refine callW_eq _ _ (f12) ?_
      simp (config := {implicitDefEqProofs := false, maxSteps := 4000000}) (disch := omega) only [push_cast, c6, Nat.reduceAdd, Nat.reduceSub, Nat.reduceMul, Nat.reduceBEq, Int.reduceToNat, Int.reduceNeg, Int.reduceLE, Int.reduceLT, Int.reduceBEq, Int.reduceBNe, Int.reduceEq, Bool.not_true, Bool.not_false, eq_self, reduceCtorEq]
    · refine callW_rel (eq_out false false false false x y hb hc hv hx) ?_
      rintro R O' ⟨nz, rfl, rfl⟩
      simp (config := {implicitDefEqProofs := false, maxSteps := 4000000}) (disch := omega) only [push_cast, c6, Nat.reduceAdd, Nat.reduceSub, Nat.reduceMul, Nat.reduceBEq, Int.reduceToNat, Int.reduceNeg, Int.reduceLE, Int.reduceLT, Int.reduceBEq, Int.reduceBNe, Int.reduceEq, Bool.not_true, Bool.not_false, eq_self, reduceCtorEq]
      refine callW_eq _ _ (f14 N O false false hb.1.1 hb.1.2 hb.2.1 hb.2.2) ?_
      simp (config := {implicitDefEqProofs := false, maxSteps := 4000000}) (disch := omega) only [push_cast, c6, Nat.reduceAdd, Nat.reduceSub, Nat.reduceMul, Nat.reduceBEq, Int.reduceToNat, Int.reduceNeg, Int.reduceLE, Int.reduceLT, Int.reduceBEq, Int.reduceBNe, Int.reduceEq, Bool.not_true, Bool.not_false, eq_self, reduceCtorEq]
      refine ⟨fun h => (by rw [hv.1] at h; cases h), fun _ => ?_⟩
      refine callW_eq _ _ (f14 M Q false false hc.1.1 hc.1.2 hc.2.1 hc.2.2) ?_
      simp (config := {implicitDefEqProofs := false, maxSteps := 4000000}) (disch := omega) only [push_cast, c6, Nat.reduceAdd, Nat.reduceSub, Nat.reduceMul, Nat.reduceBEq, Int.reduceToNat, Int.reduceNeg, Int.reduceLE, Int.reduceLT, Int.reduceBEq, Int.reduceBNe, Int.reduceEq, Bool.not_true, Bool.not_false, eq_self, reduceCtorEq]
      refine ⟨fun h => (by rw [hv.2] at h; cases h), fun _ => ?_⟩
      refine callW_eq _ _ (f15 N O false false x) ?_
      simp (config := {implicitDefEqProofs := false, maxSteps := 4000000}) (disch := omega) only [push_cast, c6, Nat.reduceAdd, Nat.reduceSub, Nat.reduceMul, Nat.reduceBEq, Int.reduceToNat, Int.reduceNeg, Int.reduceLE, Int.reduceLT, Int.reduceBEq, Int.reduceBNe, Int.reduceEq, Bool.not_true, Bool.not_false, eq_self, reduceCtorEq]
      refine ⟨fun _ => ?_, fun h1 => ?_⟩
      · refine callW_eq _ _ (f12) ?_
        simp (config := {implicitDefEqProofs := false, maxSteps := 4000000}) (disch := omega) only [push_cast, c6, Nat.reduceAdd, Nat.reduceSub, Nat.reduceMul, Nat.reduceBEq, Int.reduceToNat, Int.reduceNeg, Int.reduceLE, Int.reduceLT, Int.reduceBEq, Int.reduceBNe, Int.reduceEq, Bool.not_true, Bool.not_false, eq_self, reduceCtorEq]
      refine callW_eq _ _ (f15 M Q false false y) ?_
      simp (config := {implicitDefEqProofs := false, maxSteps := 4000000}) (disch := omega) only [push_cast, c6, Nat.reduceAdd, Nat.reduceSub, Nat.reduceMul, Nat.reduceBEq, Int.reduceToNat, Int.reduceNeg, Int.reduceLE, Int.reduceLT, Int.reduceBEq, Int.reduceBNe, Int.reduceEq, Bool.not_true, Bool.not_false, eq_self, reduceCtorEq]
      refine ⟨fun _ => ?_, fun h2 => ?_⟩
      · refine callW_eq _ _ (f12) ?_
        simp (config := {implicitDefEqProofs := false, maxSteps := 4000000}) (disch := omega) only [push_cast, c6, Nat.reduceAdd, Nat.reduceSub, Nat.reduceMul, Nat.reduceBEq, Int.reduceToNat, Int.reduceNeg, Int.reduceLE, Int.reduceLT, Int.reduceBEq, Int.reduceBNe, Int.reduceEq, Bool.not_true, Bool.not_false, eq_self, reduceCtorEq]
      refine callW_eq _ _ (f24 N O false false (by omega)) ?_
      simp (config := {implicitDefEqProofs := false, maxSteps := 4000000}) (disch := omega) only [push_cast, c6, Nat.reduceAdd, Nat.reduceSub, Nat.reduceMul, Nat.reduceBEq, Int.reduceToNat, Int.reduceNeg, Int.reduceLE, Int.reduceLT, Int.reduceBEq, Int.reduceBNe, Int.reduceEq, Bool.not_true, Bool.not_false, eq_self, reduceCtorEq]
      refine callW_eq _ _ (f24 M Q false false (by omega)) ?_
      simp (config := {implicitDefEqProofs := false, maxSteps := 4000000}) (disch := omega) only [push_cast, c6, Nat.reduceAdd, Nat.reduceSub, Nat.reduceMul, Nat.reduceBEq, Int.reduceToNat, Int.reduceNeg, Int.reduceLE, Int.reduceLT, Int.reduceBEq, Int.reduceBNe, Int.reduceEq, Bool.not_true, Bool.not_false, eq_self, reduceCtorEq]
      refine ⟨fun _ => ?_, fun h3 => absurd ⟨h1, h2, h3⟩ hx⟩
      refine callW_eq _ _ (f12) ?_
      simp (config := {implicitDefEqProofs := false, maxSteps := 4000000}) (disch := omega) only [push_cast, c6, Nat.reduceAdd, Nat.reduceSub, Nat.reduceMul, Nat.reduceBEq, Int.reduceToNat, Int.reduceNeg, Int.reduceLE, Int.reduceLT, Int.reduceBEq, Int.reduceBNe, Int.reduceEq, Bool.not_true, Bool.not_false, eq_self, reduceCtorEq]
  · refine callW_rel (eq_bad false false false false x y hb hc hv) ?_
    rintro R O' ⟨nz, rfl, rfl⟩
    simp (config := {implicitDefEqProofs := false, maxSteps := 4000000}) (disch := omega) only [push_cast, c6, Nat.reduceAdd, Nat.reduceSub, Nat.reduceMul, Nat.reduceBEq, Int.reduceToNat, Int.reduceNeg, Int.reduceLE, Int.reduceLT, Int.reduceBEq, Int.reduceBNe, Int.reduceEq, Bool.not_true, Bool.not_false, eq_self, reduceCtorEq]
    refine callW_eq _ _ (f14 N O false false hb.1.1 hb.1.2 hb.2.1 hb.2.2) ?_
    simp (config := {implicitDefEqProofs := false, maxSteps := 4000000}) (disch := omega) only [push_cast, c6, Nat.reduceAdd, Nat.reduceSub, Nat.reduceMul, Nat.reduceBEq, Int.reduceToNat, Int.reduceNeg, Int.reduceLE, Int.reduceLT, Int.reduceBEq, Int.reduceBNe, Int.reduceEq, Bool.not_true, Bool.not_false, eq_self, reduceCtorEq]
    refine ⟨fun h => ?_, fun h1 => ?_⟩
    · refine callW_eq _ _ (f12) ?_
      simp (config := {implicitDefEqProofs := false, maxSteps := 4000000}) (disch := omega) only [push_cast, c6, Nat.reduceAdd, Nat.reduceSub, Nat.reduceMul, Nat.reduceBEq, Int.reduceToNat, Int.reduceNeg, Int.reduceLE, Int.reduceLT, Int.reduceBEq, Int.reduceBNe, Int.reduceEq, Bool.not_true, Bool.not_false, eq_self, reduceCtorEq]
    refine callW_eq _ _ (f14 M Q false false hc.1.1 hc.1.2 hc.2.1 hc.2.2) ?_
    simp (config := {implicitDefEqProofs := false, maxSteps := 4000000}) (disch := omega) only [push_cast, c6, Nat.reduceAdd, Nat.reduceSub, Nat.reduceMul, Nat.reduceBEq, Int.reduceToNat, Int.reduceNeg, Int.reduceLE, Int.reduceLT, Int.reduceBEq, Int.reduceBNe, Int.reduceEq, Bool.not_true, Bool.not_false, eq_self, reduceCtorEq]
    refine ⟨fun h => ?_, fun h2 => absurd ⟨h1, h2⟩ hv⟩
    refine callW_eq _ _ (f12) ?_
    simp (config := {implicitDefEqProofs := false, maxSteps := 4000000}) (disch := omega) only [push_cast, c6, Nat.reduceAdd, Nat.reduceSub, Nat.reduceMul, Nat.reduceBEq, Int.reduceToNat, Int.reduceNeg, Int.reduceLE, Int.reduceLT, Int.reduceBEq, Int.reduceBNe, Int.reduceEq, Bool.not_true, Bool.not_false, eq_self, reduceCtorEq]
theorem lawMealyEqual (N O : List (List Int)) (x : Int) (M Q : List (List Int)) (y : Int) (hl : N.length ≤ 4611686018427387904) (_ : ∀ r ∈ N, r.length ≤ 4611686018427387904) (ho : O.length ≤ 4611686018427387904) (_ : ∀ r ∈ O, r.length ≤ 4611686018427387904)
    (hm : M.length ≤ 4611686018427387904) (_ : ∀ r ∈ M, r.length ≤ 4611686018427387904) (hq : Q.length ≤ 4611686018427387904) (_ : ∀ r ∈ Q, r.length ≤ 4611686018427387904) :
    ACall Tryd.prog 6 [.agg [.pay (.rows (N)) (false), .pay (.rows (O)) (false)], .int .i64 x, .agg [.pay (.rows (M)) (false), .pay (.rows (Q)) (false)], .int .i64 y] (fun r objs => r = .bool true ∧ objs = []) := f6 N O x M Q y hl ho hm hq
end Go.AM
end

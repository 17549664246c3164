/-
  Contract of MealyClasses; conditions in each statement.
-/
import Derived.Test.YthgglfpklgjibaaDoorS9
set_option linter.unusedVariables false
set_option linter.unusedSimpArgs false
set_option linter.unusedSectionVars false

/-! text Ud17 -/
section
namespace Go.AM
open Go Go.Proofs
theorem cl_bad {N O : List (List Int)} (z z' : Bool) (hb : nbB N O) (hv : vmB N O = false) :
    ACall Tryd.prog 25 [.agg [.pay (.rows (N)) (z), .pay (.rows (O)) (z')]] (fun r objs => r = .tup [.pay (.ints .i64 []) true, .int .i64 1] ∧ objs = []) := by
  refine (f25 N O z z' hb.1.1 hb.1.2 hb.2.1 hb.2.2).mono ?_
  rintro r objs ⟨c, e, ⟨_, rfl, rfl⟩ | ⟨h, _⟩, rfl, rfl⟩
  · exact ⟨rfl, rfl⟩
  · rw [hv] at h; cases h
theorem cl_ok {N O : List (List Int)} (z z' : Bool) (hb : nbB N O) (hv : vmB N O = true) :
    ACall Tryd.prog 25 [.agg [.pay (.rows (N)) (z), .pay (.rows (O)) (z')]] (fun r objs => r = .tup [.pay (.ints .i64 (clsT N O (N.getD 0 []).length)) true, .int .i64 0] ∧ objs = []) := by
  refine (f25 N O z z' hb.1.1 hb.1.2 hb.2.1 hb.2.2).mono ?_
  rintro r objs ⟨c, e, ⟨h, _⟩ | ⟨_, rfl, rfl⟩, rfl, rfl⟩
  · rw [hv] at h; cases h
  · exact ⟨rfl, rfl⟩
theorem mn_bad {N O : List (List Int)} (z z' : Bool) (hb : nbB N O) (hv : vmB N O = false) :
    ACall Tryd.prog 26 [.agg [.pay (.rows (N)) (z), .pay (.rows (O)) (z')]] (fun r objs => ∃ nz nz', r = .tup [.agg [.pay (.rows ([])) (nz), .pay (.rows ([])) (nz')], .int .i64 1] ∧ objs = []) := by
  refine (f26 N O z z' hb.1.1 hb.1.2 hb.2.1 hb.2.2).mono ?_
  rintro r objs ⟨A, B, e, nz, nz', ⟨_, rfl, rfl, rfl⟩ | ⟨h, _⟩, rfl, rfl⟩
  · exact ⟨_, _, rfl, rfl⟩
  · rw [hv] at h; cases h
theorem mn_ok {N O : List (List Int)} (z z' : Bool) (hb : nbB N O) (hv : vmB N O = true) :
    ACall Tryd.prog 26 [.agg [.pay (.rows (N)) (z), .pay (.rows (O)) (z')]] (fun r objs => ∃ nz nz', r = .tup [.agg [.pay (.rows (minN N O (N.getD 0 []).length)) (nz), .pay (.rows (minO N O (N.getD 0 []).length)) (nz')], .int .i64 0] ∧ objs = []) := by
  refine (f26 N O z z' hb.1.1 hb.1.2 hb.2.1 hb.2.2).mono ?_
  rintro r objs ⟨A, B, e, nz, nz', ⟨h, _⟩ | ⟨_, rfl, rfl, rfl⟩, rfl, rfl⟩
  · rw [hv] at h; cases h
  · exact ⟨_, _, rfl, rfl⟩
theorem sm_nil (z z' : Bool) : ACall Tryd.prog 21 [.agg [.pay (.rows ([])) (z), .pay (.rows ([])) (z')], .agg [.lit (.slice none 0 0), .lit (.slice none 0 0)]] (fun r objs => r = .bool true ∧ objs = []) :=
  ACall.nilArgs (.rows []) rfl ((f21 [] [] [] [] z z' true true (Nat.zero_le _) (fun r hr => by cases hr) (Nat.zero_le _) (fun r hr => by cases hr)).mono fun r objs h => by simpa using h)
theorem row_sm {N O : List (List Int)} {k : Nat} (hV : VM N O k) : nbB (minN N O k) (minO N O k) := by
  have h1 := minN_len (N := N) (O := O) (k := k)
  have h2 := minO_len (N := N) (O := O) (k := k)
  have h3 : cntT N O k ≤ N.length := cntI_le _
  have h4 := hV.v.n2
  have h5 := hV.v.k2
  refine ⟨⟨by omega, fun r hr => ?_⟩, by omega, fun r hr => ?_⟩
  · obtain ⟨c, hc, rfl⟩ := List.mem_map.1 hr
    have h6 := (repC_ok (N := N) (O := O) (k := k) (List.mem_range.1 hc)).1
    have := (hV.v.row _ (getD_mem' h6)).1
    rw [rowN, List.length_map]; omega
  · obtain ⟨c, hc, rfl⟩ := List.mem_map.1 hr
    have h6 := (repC_ok (N := N) (O := O) (k := k) (List.mem_range.1 hc)).1
    have := (hV.orow _ (getD_mem' (show repC N O k c < O.length by have := hV.ol; omega))).1
    omega
/- mizmaze/mizmazelaw07.MealyClasses -/
def c7 : VCfg := ⟨⟨[], [], [], [0, 1, 2, 3, 4, 5, 6, 8, 22]⟩, [(7, (.op 0 .loose (.op 1 .loose (.op 2 .loose (.op 3 .loose (.op 4 .loose (.op 5 .loose (.op 6 .loose (.op 7 .loose (.op 8 .loose (.op 9 .eff (.op 10 .eff (.op 11 .loose (.op 12 .loose (.op 13 .loose (.op 14 .loose (.op 15 .eff (.op 16 .eff (.op 17 .loose (.op 18 .loose (.op 19 .eff (.op 20 .loose (.op 21 .loose .nil)))))))))))))))))))))))], [], []⟩
set_option maxHeartbeats 4000000 in
set_option maxRecDepth 100000 in
theorem f7 (N O : List (List Int)) (hl : N.length ≤ 4611686018427387904) (hl2 : O.length ≤ 4611686018427387904) :
    ACall Tryd.prog 7 [.agg [.pay (.rows (N)) (false), .pay (.rows (O)) (false)]] (fun r objs => r = .bool true ∧ objs = []) := by
  refine acall_intro (tyP_ok _) c7 2000 [.tmp 2] Tryd.func7 rfl (by rfl) rfl (by kernel_rfl) ?_
  unfold Tryd.f7
  simp (config := {implicitDefEqProofs := false, maxSteps := 4000000}) (disch := omega) only [push_cast, c7, Nat.reduceAdd, Nat.reduceSub, Nat.reduceMul, Nat.reduceBEq, Int.reduceToNat, Int.reduceNeg, Int.reduceLE, Int.reduceLT, Int.reduceBEq, Int.reduceBNe, Int.reduceEq, Bool.not_true, Bool.not_false, eq_self, reduceCtorEq]
  refine callW_rel (f11 N O false false hl hl2) ?_
  rintro R O' ⟨b, rfl, hb, rfl⟩
  simp (config := {implicitDefEqProofs := false, maxSteps := 4000000}) (disch := omega) only [push_cast, c7, Nat.reduceAdd, Nat.reduceSub, Nat.reduceMul, Nat.reduceBEq, Int.reduceToNat, Int.reduceNeg, Int.reduceLE, Int.reduceLT, Int.reduceBEq, Int.reduceBNe, Int.reduceEq, Bool.not_true, Bool.not_false, eq_self, reduceCtorEq]
  refine ⟨fun h => ?_, fun h => ?_⟩
  · refine callW_eq _ _ (f12) ?_
    simp (config := {implicitDefEqProofs := false, maxSteps := 4000000}) (disch := omega) only [push_cast, c7, Nat.reduceAdd, Nat.reduceSub, Nat.reduceMul, Nat.reduceBEq, Int.reduceToNat, Int.reduceNeg, Int.reduceLE, Int.reduceLT, Int.reduceBEq, Int.reduceBNe, Int.reduceEq, Bool.not_true, Bool.not_false, eq_self, reduceCtorEq]
  have hb := nb (hb h)
  cases hv : vmB N O with
  | false =>
    refine callW_eq _ _ (cl_bad false false hb hv) ?_
    simp (config := {implicitDefEqProofs := false, maxSteps := 4000000}) (disch := omega) only [push_cast, c7, Nat.reduceAdd, Nat.reduceSub, Nat.reduceMul, Nat.reduceBEq, Int.reduceToNat, Int.reduceNeg, Int.reduceLE, Int.reduceLT, Int.reduceBEq, Int.reduceBNe, Int.reduceEq, Bool.not_true, Bool.not_false, eq_self, reduceCtorEq]
    refine callW_rel (mn_bad false false hb hv) ?_
    rintro R O' ⟨nz, nz', rfl, rfl⟩
    simp (config := {implicitDefEqProofs := false, maxSteps := 4000000}) (disch := omega) only [push_cast, c7, Nat.reduceAdd, Nat.reduceSub, Nat.reduceMul, Nat.reduceBEq, Int.reduceToNat, Int.reduceNeg, Int.reduceLE, Int.reduceLT, Int.reduceBEq, Int.reduceBNe, Int.reduceEq, Bool.not_true, Bool.not_false, eq_self, reduceCtorEq]
    refine callW_eq _ _ (f14 N O false false hb.1.1 hb.1.2 hb.2.1 hb.2.2) ?_
    simp (config := {implicitDefEqProofs := false, maxSteps := 4000000}) (disch := omega) only [push_cast, c7, Nat.reduceAdd, Nat.reduceSub, Nat.reduceMul, Nat.reduceBEq, Int.reduceToNat, Int.reduceNeg, Int.reduceLE, Int.reduceLT, Int.reduceBEq, Int.reduceBNe, Int.reduceEq, Bool.not_true, Bool.not_false, eq_self, reduceCtorEq]
    refine ⟨fun _ => ?_, fun h => by rw [hv] at h; cases h⟩
    refine callW_eq _ _ (sm_nil nz nz') ?_
    simp (config := {implicitDefEqProofs := false, maxSteps := 4000000}) (disch := omega) only [push_cast, c7, Nat.reduceAdd, Nat.reduceSub, Nat.reduceMul, Nat.reduceBEq, Int.reduceToNat, Int.reduceNeg, Int.reduceLE, Int.reduceLT, Int.reduceBEq, Int.reduceBNe, Int.reduceEq, Bool.not_true, Bool.not_false, eq_self, reduceCtorEq]
    refine callW_eq _ _ (f12) ?_
    simp (config := {implicitDefEqProofs := false, maxSteps := 4000000}) (disch := omega) only [push_cast, c7, Nat.reduceAdd, Nat.reduceSub, Nat.reduceMul, Nat.reduceBEq, Int.reduceToNat, Int.reduceNeg, Int.reduceLE, Int.reduceLT, Int.reduceBEq, Int.reduceBNe, Int.reduceEq, Bool.not_true, Bool.not_false, eq_self, reduceCtorEq]
  | true =>
    have hV := vmB_iff.1 hv
    have hn := hV.v.n2
    refine callW_eq _ _ (cl_ok false false hb hv) ?_
    simp (config := {implicitDefEqProofs := false, maxSteps := 4000000}) (disch := omega) only [push_cast, c7, Nat.reduceAdd, Nat.reduceSub, Nat.reduceMul, Nat.reduceBEq, Int.reduceToNat, Int.reduceNeg, Int.reduceLE, Int.reduceLT, Int.reduceBEq, Int.reduceBNe, Int.reduceEq, Bool.not_true, Bool.not_false, eq_self, reduceCtorEq]
    refine callW_rel (mn_ok false false hb hv) ?_
    rintro R O' ⟨nz, nz', rfl, rfl⟩
    simp (config := {implicitDefEqProofs := false, maxSteps := 4000000}) (disch := omega) only [push_cast, c7, Nat.reduceAdd, Nat.reduceSub, Nat.reduceMul, Nat.reduceBEq, Int.reduceToNat, Int.reduceNeg, Int.reduceLE, Int.reduceLT, Int.reduceBEq, Int.reduceBNe, Int.reduceEq, Bool.not_true, Bool.not_false, eq_self, reduceCtorEq]
    refine callW_eq _ _ (f14 N O false false hb.1.1 hb.1.2 hb.2.1 hb.2.2) ?_
    simp (config := {implicitDefEqProofs := false, maxSteps := 4000000}) (disch := omega) only [push_cast, c7, Nat.reduceAdd, Nat.reduceSub, Nat.reduceMul, Nat.reduceBEq, Int.reduceToNat, Int.reduceNeg, Int.reduceLE, Int.reduceLT, Int.reduceBEq, Int.reduceBNe, Int.reduceEq, Bool.not_true, Bool.not_false, eq_self, reduceCtorEq]
    refine ⟨fun h => (by rw [hv] at h; cases h), fun _ => ?_⟩
    refine callW_eq _ _ (f27 N O false false _ hV) ?_
    simp (config := {implicitDefEqProofs := false, maxSteps := 4000000}) (disch := omega) only [push_cast, c7, Nat.reduceAdd, Nat.reduceSub, Nat.reduceMul, Nat.reduceBEq, Int.reduceToNat, Int.reduceNeg, Int.reduceLE, Int.reduceLT, Int.reduceBEq, Int.reduceBNe, Int.reduceEq, Bool.not_true, Bool.not_false, eq_self, reduceCtorEq]
    refine callW_eq _ _ (f17 _ _ _ _ (by rw [clsT_len]; omega)) ?_
    simp (config := {implicitDefEqProofs := false, maxSteps := 4000000}) (disch := omega) only [push_cast, c7, Nat.reduceAdd, Nat.reduceSub, Nat.reduceMul, Nat.reduceBEq, Int.reduceToNat, Int.reduceNeg, Int.reduceLE, Int.reduceLT, Int.reduceBEq, Int.reduceBNe, Int.reduceEq, Bool.not_true, Bool.not_false, eq_self, reduceCtorEq]
    refine callW_eq _ _ (f28 N O false false _ hV) ?_
    simp (config := {implicitDefEqProofs := false, maxSteps := 4000000}) (disch := omega) only [push_cast, c7, Nat.reduceAdd, Nat.reduceSub, Nat.reduceMul, Nat.reduceBEq, Int.reduceToNat, Int.reduceNeg, Int.reduceLE, Int.reduceLT, Int.reduceBEq, Int.reduceBNe, Int.reduceEq, Bool.not_true, Bool.not_false, eq_self, reduceCtorEq]
    have hm := row_sm hV
    refine callW_eq _ _ (f21 _ _ _ _ _ _ _ _ hm.1.1 hm.1.2 hm.2.1 hm.2.2) ?_
    simp (config := {implicitDefEqProofs := false, maxSteps := 4000000}) (disch := omega) only [push_cast, c7, Nat.reduceAdd, Nat.reduceSub, Nat.reduceMul, Nat.reduceBEq, Int.reduceToNat, Int.reduceNeg, Int.reduceLE, Int.reduceLT, Int.reduceBEq, Int.reduceBNe, Int.reduceEq, Bool.not_true, Bool.not_false, eq_self, reduceCtorEq]
    refine callW_eq _ _ (f12) ?_
    simp (config := {implicitDefEqProofs := false, maxSteps := 4000000}) (disch := omega) only [push_cast, c7, Nat.reduceAdd, Nat.reduceSub, Nat.reduceMul, Nat.reduceBEq, Int.reduceToNat, Int.reduceNeg, Int.reduceLE, Int.reduceLT, Int.reduceBEq, Int.reduceBNe, Int.reduceEq, Bool.not_true, Bool.not_false, eq_self, reduceCtorEq]
theorem lawMealyClasses (N O : List (List Int)) (hl : N.length ≤ 4611686018427387904) (_ : ∀ r ∈ N, r.length ≤ 4611686018427387904) (ho : O.length ≤ 4611686018427387904) (_ : ∀ r ∈ O, r.length ≤ 4611686018427387904) :
    ACall Tryd.prog 7 [.agg [.pay (.rows (N)) (false), .pay (.rows (O)) (false)]] (fun r objs => r = .bool true ∧ objs = []) := f7 N O hl ho
end Go.AM
end

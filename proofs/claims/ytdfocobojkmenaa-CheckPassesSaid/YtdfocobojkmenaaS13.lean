/-
  Contract of CheckPasses; conditions in each statement.
-/
import Derived.Test.YtdfocobojkmenaaS12
import Derived.Test.YtdfocobojkmenaaP6
set_option linter.unusedVariables false
set_option linter.unusedSimpArgs false
set_option linter.unusedSectionVars false
set_option linter.unnecessarySimpa false

/-! text Uk30 -/
section
namespace Go.AM
open Go Go.Proofs Go.Sort
/-- whether the letters agree, and the first words are words -/
def fineB (words : List (List Int)) (kN kM i : Nat) : Bool := decide (kN = kM) && (words.take i).all fun w => wordB kN w
theorem fineB_succ {words : List (List Int)} {kN kM i : Nat} (h : i < words.length) : fineB words kN kM (i + 1) = (fineB words kN kM i && wordB kN (words.getD i [])) := by
  have e1 : words.getD i [] = words[i] := by simp [List.getD, h]
  unfold fineB
  rw [List.take_succ_eq_append_getElem h, List.all_append, e1, Bool.and_assoc]
  simp
/- mizmaze/mizmazelaw09.CheckPasses -/
def c6 : VCfg := ⟨⟨[], [], [], [0, 1, 2, 3, 4, 6, 7, 8, 9, 10, 11, 12, 20, 44, 60, 78, 92]⟩, [(11, (.op 0 .loose (.op 2 .loose (.op 1 .eff (.op 3 .eff (.op 4 .loose (.op 5 .loose .nil))))))), (15, (.op 0 .loose (.op 1 .loose (.op 2 .loose (.op 4 .loose (.op 5 .loose (.op 6 .loose (.op 7 .loose (.op 3 .eff (.op 8 .eff (.op 9 .loose (.op 10 .loose .nil))))))))))))], [], []⟩
set_option maxHeartbeats 8000000 in
set_option maxRecDepth 100000 in
theorem f6 (N O M Q : List (List Int)) (words : List (List Int)) (hl : N.length ≤ 4611686018427387904) (hl2 : O.length ≤ 4611686018427387904) (hm : M.length ≤ 4611686018427387904) (hm2 : Q.length ≤ 4611686018427387904) (hwl : words.length ≤ 17592186044416) (hww : ∀ r ∈ words, r.length ≤ 17592186044416) :
    ACall Try.prog 6 [.agg [.pay (.rows (N)) (false), .pay (.rows (O)) (false)], .agg [.pay (.rows (M)) (false), .pay (.rows (Q)) (false)], .pay (.rows words) false] (fun r objs => r = .bool true ∧ objs = []) := by
  refine acall_intro (tyP_ok _) c6 2000 [.tmp 6] Try.func6 rfl (by rfl) rfl (by kernel_rfl) ?_
  unfold Try.f6
  simp (config := {implicitDefEqProofs := false, maxSteps := 4000000}) (disch := omega) only [push_cast, c6, Nat.reduceAdd, Nat.reduceSub, Nat.reduceMul, Nat.reduceBEq, Int.reduceToNat, Int.reduceNeg, Int.reduceLE, Int.reduceLT, Int.reduceBEq, Int.reduceBNe, Int.reduceEq, Bool.not_true, Bool.not_false, eq_self, reduceCtorEq]
  refine awp_upto (tyP_ok _) c6 2000 [2, 3, 4, 6, 7, 8] (words.length) (fun i => i ≤ 1001) (fun i => ⟨115, [(2, .pay (.rows words) false), (3, .fref [.pay (.rows N) false, .pay (.rows O) false]), (4, .fref [.pay (.rows M) false, .pay (.rows Q) false]), (6, .bool false), (7, .int .i64 (sumL words i)), (8, .int .i64 i)], []⟩) (by kernel_rfl) ?_ ?_ ?_
  · simp (config := {implicitDefEqProofs := false, maxSteps := 4000000}) (disch := omega) only [push_cast, c6, Nat.reduceAdd, Nat.reduceSub, Nat.reduceMul, Nat.reduceBEq, Int.reduceToNat, Int.reduceNeg, Int.reduceLE, Int.reduceLT, Int.reduceBEq, Int.reduceBNe, Int.reduceEq, Bool.not_true, Bool.not_false, eq_self, reduceCtorEq]
    rfl
  · omega
  intro i hi hi2
  have hsl := sumL_le hww i
  have hsl2 := sumL_le hww (i + 1)
  have hse : sumL words (i + 1) = sumL words i + (words.getD i []).length := rfl
  simp (config := {implicitDefEqProofs := false, maxSteps := 4000000}) (disch := omega) only [push_cast, c6, Nat.reduceAdd, Nat.reduceSub, Nat.reduceMul, Nat.reduceBEq, Int.reduceToNat, Int.reduceNeg, Int.reduceLE, Int.reduceLT, Int.reduceBEq, Int.reduceBNe, Int.reduceEq, Bool.not_true, Bool.not_false, eq_self, reduceCtorEq]
  refine ⟨fun hlt => ⟨fun hle => ⟨hlt, hlt, by omega, by omega⟩, fun hgt => ?_⟩, fun hge => ?_⟩
  · refine callW_rel (f10 N O false false hl hl2) ?_
    rintro R O' ⟨b, rfl, hb, rfl⟩
    simp (config := {implicitDefEqProofs := false, maxSteps := 4000000}) (disch := omega) only [push_cast, c6, Nat.reduceAdd, Nat.reduceSub, Nat.reduceMul, Nat.reduceBEq, Int.reduceToNat, Int.reduceNeg, Int.reduceLE, Int.reduceLT, Int.reduceBEq, Int.reduceBNe, Int.reduceEq, Bool.not_true, Bool.not_false, eq_self, reduceCtorEq]
    refine ⟨fun h => ?_, fun h => ?_⟩
    · refine callW_eq _ _ (f11) ?_
      simp (config := {implicitDefEqProofs := false, maxSteps := 4000000}) (disch := omega) only [push_cast, c6, Nat.reduceAdd, Nat.reduceSub, Nat.reduceMul, Nat.reduceBEq, Int.reduceToNat, Int.reduceNeg, Int.reduceLE, Int.reduceLT, Int.reduceBEq, Int.reduceBNe, Int.reduceEq, Bool.not_true, Bool.not_false, eq_self, reduceCtorEq]
    refine callW_rel (f10 M Q false false hm hm2) ?_
    rintro R O' ⟨b2, rfl, hb2, rfl⟩
    simp (config := {implicitDefEqProofs := false, maxSteps := 4000000}) (disch := omega) only [push_cast, c6, Nat.reduceAdd, Nat.reduceSub, Nat.reduceMul, Nat.reduceBEq, Int.reduceToNat, Int.reduceNeg, Int.reduceLE, Int.reduceLT, Int.reduceBEq, Int.reduceBNe, Int.reduceEq, Bool.not_true, Bool.not_false, eq_self, reduceCtorEq]
    refine ⟨fun h => ?_, fun h => ?_⟩
    · refine callW_eq _ _ (f11) ?_
      simp (config := {implicitDefEqProofs := false, maxSteps := 4000000}) (disch := omega) only [push_cast, c6, Nat.reduceAdd, Nat.reduceSub, Nat.reduceMul, Nat.reduceBEq, Int.reduceToNat, Int.reduceNeg, Int.reduceLE, Int.reduceLT, Int.reduceBEq, Int.reduceBNe, Int.reduceEq, Bool.not_true, Bool.not_false, eq_self, reduceCtorEq]
    refine ⟨fun _ => ?_, fun h => by omega⟩
    refine callW_eq _ _ (f11) ?_
    simp (config := {implicitDefEqProofs := false, maxSteps := 4000000}) (disch := omega) only [push_cast, c6, Nat.reduceAdd, Nat.reduceSub, Nat.reduceMul, Nat.reduceBEq, Int.reduceToNat, Int.reduceNeg, Int.reduceLE, Int.reduceLT, Int.reduceBEq, Int.reduceBNe, Int.reduceEq, Bool.not_true, Bool.not_false, eq_self, reduceCtorEq]
  · have hie : i = words.length := by omega
    subst hie
    refine callW_rel (f10 N O false false hl hl2) ?_
    rintro R O' ⟨b, rfl, hb, rfl⟩
    simp (config := {implicitDefEqProofs := false, maxSteps := 4000000}) (disch := omega) only [push_cast, c6, Nat.reduceAdd, Nat.reduceSub, Nat.reduceMul, Nat.reduceBEq, Int.reduceToNat, Int.reduceNeg, Int.reduceLE, Int.reduceLT, Int.reduceBEq, Int.reduceBNe, Int.reduceEq, Bool.not_true, Bool.not_false, eq_self, reduceCtorEq]
    refine ⟨fun h => ?_, fun h => ?_⟩
    · refine callW_eq _ _ (f11) ?_
      simp (config := {implicitDefEqProofs := false, maxSteps := 4000000}) (disch := omega) only [push_cast, c6, Nat.reduceAdd, Nat.reduceSub, Nat.reduceMul, Nat.reduceBEq, Int.reduceToNat, Int.reduceNeg, Int.reduceLE, Int.reduceLT, Int.reduceBEq, Int.reduceBNe, Int.reduceEq, Bool.not_true, Bool.not_false, eq_self, reduceCtorEq]
    have hb := nb (hb h)
    refine callW_rel (f10 M Q false false hm hm2) ?_
    rintro R O' ⟨b2, rfl, hb2, rfl⟩
    simp (config := {implicitDefEqProofs := false, maxSteps := 4000000}) (disch := omega) only [push_cast, c6, Nat.reduceAdd, Nat.reduceSub, Nat.reduceMul, Nat.reduceBEq, Int.reduceToNat, Int.reduceNeg, Int.reduceLE, Int.reduceLT, Int.reduceBEq, Int.reduceBNe, Int.reduceEq, Bool.not_true, Bool.not_false, eq_self, reduceCtorEq]
    refine ⟨fun h => ?_, fun h => ?_⟩
    · refine callW_eq _ _ (f11) ?_
      simp (config := {implicitDefEqProofs := false, maxSteps := 4000000}) (disch := omega) only [push_cast, c6, Nat.reduceAdd, Nat.reduceSub, Nat.reduceMul, Nat.reduceBEq, Int.reduceToNat, Int.reduceNeg, Int.reduceLE, Int.reduceLT, Int.reduceBEq, Int.reduceBNe, Int.reduceEq, Bool.not_true, Bool.not_false, eq_self, reduceCtorEq]
    have hb2 := nb (hb2 h)
    refine ⟨fun _ => ?_, fun hw1000 => ⟨fun _ => ?_, fun hs50 => ?_⟩⟩
    · refine callW_eq _ _ (f11) ?_
      simp (config := {implicitDefEqProofs := false, maxSteps := 4000000}) (disch := omega) only [push_cast, c6, Nat.reduceAdd, Nat.reduceSub, Nat.reduceMul, Nat.reduceBEq, Int.reduceToNat, Int.reduceNeg, Int.reduceLE, Int.reduceLT, Int.reduceBEq, Int.reduceBNe, Int.reduceEq, Bool.not_true, Bool.not_false, eq_self, reduceCtorEq]
    · refine callW_eq _ _ (f11) ?_
      simp (config := {implicitDefEqProofs := false, maxSteps := 4000000}) (disch := omega) only [push_cast, c6, Nat.reduceAdd, Nat.reduceSub, Nat.reduceMul, Nat.reduceBEq, Int.reduceToNat, Int.reduceNeg, Int.reduceLE, Int.reduceLT, Int.reduceBEq, Int.reduceBNe, Int.reduceEq, Bool.not_true, Bool.not_false, eq_self, reduceCtorEq]
    have hwm := fun w (h : w ∈ words) => sumL_mem h
    refine callW_rel (f25 N O M Q false false false false words false hb hb2 ⟨by omega, fun r hr => by have := hwm r hr; omega⟩) ?_
    rintro R O' ⟨is, e, h9, rfl, rfl⟩
    simp (config := {implicitDefEqProofs := false, maxSteps := 4000000}) (disch := omega) only [push_cast, c6, Nat.reduceAdd, Nat.reduceSub, Nat.reduceMul, Nat.reduceBEq, Int.reduceToNat, Int.reduceNeg, Int.reduceLE, Int.reduceLT, Int.reduceBEq, Int.reduceBNe, Int.reduceEq, Bool.not_true, Bool.not_false, eq_self, reduceCtorEq]
    refine callW_eq _ _ (f14 N O false false hb.1.1 hb.1.2 hb.2.1 hb.2.2) ?_
    simp (config := {implicitDefEqProofs := false, maxSteps := 4000000}) (disch := omega) only [push_cast, c6, Nat.reduceAdd, Nat.reduceSub, Nat.reduceMul, Nat.reduceBEq, Int.reduceToNat, Int.reduceNeg, Int.reduceLE, Int.reduceLT, Int.reduceBEq, Int.reduceBNe, Int.reduceEq, Bool.not_true, Bool.not_false, eq_self, reduceCtorEq]
    refine ⟨fun hv => ?_, fun hv => ?_⟩
    · rcases h9 with ⟨_, rfl, rfl⟩ | ⟨⟨h, _⟩, _⟩ | ⟨⟨h, _⟩, _⟩
      · refine ⟨fun _ => ⟨fun _ => ?_, fun h => by cases h⟩, fun h => absurd rfl h⟩
        refine callW_eq _ _ (f11) ?_
        simp (config := {implicitDefEqProofs := false, maxSteps := 4000000}) (disch := omega) only [push_cast, c6, Nat.reduceAdd, Nat.reduceSub, Nat.reduceMul, Nat.reduceBEq, Int.reduceToNat, Int.reduceNeg, Int.reduceLE, Int.reduceLT, Int.reduceBEq, Int.reduceBNe, Int.reduceEq, Bool.not_true, Bool.not_false, eq_self, reduceCtorEq]
      · rw [hv] at h; cases h
      · rw [hv] at h; cases h
    refine callW_eq _ _ (f14 M Q false false hb2.1.1 hb2.1.2 hb2.2.1 hb2.2.2) ?_
    simp (config := {implicitDefEqProofs := false, maxSteps := 4000000}) (disch := omega) only [push_cast, c6, Nat.reduceAdd, Nat.reduceSub, Nat.reduceMul, Nat.reduceBEq, Int.reduceToNat, Int.reduceNeg, Int.reduceLE, Int.reduceLT, Int.reduceBEq, Int.reduceBNe, Int.reduceEq, Bool.not_true, Bool.not_false, eq_self, reduceCtorEq]
    refine ⟨fun hv2 => ?_, fun hv2 => ?_⟩
    · rcases h9 with ⟨_, rfl, rfl⟩ | ⟨⟨_, h⟩, _⟩ | ⟨⟨_, h⟩, _⟩
      · refine ⟨fun _ => ⟨fun _ => ?_, fun h => by cases h⟩, fun h => absurd rfl h⟩
        refine callW_eq _ _ (f11) ?_
        simp (config := {implicitDefEqProofs := false, maxSteps := 4000000}) (disch := omega) only [push_cast, c6, Nat.reduceAdd, Nat.reduceSub, Nat.reduceMul, Nat.reduceBEq, Int.reduceToNat, Int.reduceNeg, Int.reduceLE, Int.reduceLT, Int.reduceBEq, Int.reduceBNe, Int.reduceEq, Bool.not_true, Bool.not_false, eq_self, reduceCtorEq]
      · rw [hv2] at h; cases h
      · rw [hv2] at h; cases h
    have hV := vmB_iff.1 hv
    have hV2 := vmB_iff.1 hv2
    have hn1 := hV.v.n1
    have hm1 := hV2.v.n1
    refine callW_eq _ _ (f26 N O false false (by omega)) ?_
    simp (config := {implicitDefEqProofs := false, maxSteps := 4000000}) (disch := omega) only [push_cast, c6, Nat.reduceAdd, Nat.reduceSub, Nat.reduceMul, Nat.reduceBEq, Int.reduceToNat, Int.reduceNeg, Int.reduceLE, Int.reduceLT, Int.reduceBEq, Int.reduceBNe, Int.reduceEq, Bool.not_true, Bool.not_false, eq_self, reduceCtorEq]
    refine callW_eq _ _ (f26 M Q false false (by omega)) ?_
    simp (config := {implicitDefEqProofs := false, maxSteps := 4000000}) (disch := omega) only [push_cast, c6, Nat.reduceAdd, Nat.reduceSub, Nat.reduceMul, Nat.reduceBEq, Int.reduceToNat, Int.reduceNeg, Int.reduceLE, Int.reduceLT, Int.reduceBEq, Int.reduceBNe, Int.reduceEq, Bool.not_true, Bool.not_false, eq_self, reduceCtorEq]
    generalize hkN : (N.getD 0 []).length = kN at *
    generalize hkM : (M.getD 0 []).length = kM at *
    refine awp_upto (tyP_ok _) c6 2000 [2, 3, 4, 6, 9, 10, 11, 12] (words.length) (fun _ => True) (fun i => ⟨115, [(2, .pay (.rows words) false), (3, .fref [.pay (.rows N) false, .pay (.rows O) false]), (4, .fref [.pay (.rows M) false, .pay (.rows Q) false]), (6, .bool false), (9, .bool is), (10, .int .i64 e), (11, .bool (fineB words kN kM i)), (12, .int .i64 i)], []⟩) (by kernel_rfl) ?_ ?_ ?_
    · simp (config := {implicitDefEqProofs := false, maxSteps := 4000000}) (disch := omega) only [push_cast, c6, Nat.reduceAdd, Nat.reduceSub, Nat.reduceMul, Nat.reduceBEq, Int.reduceToNat, Int.reduceNeg, Int.reduceLE, Int.reduceLT, Int.reduceBEq, Int.reduceBNe, Int.reduceEq, Bool.not_true, Bool.not_false, eq_self, reduceCtorEq]
      rw [Bool.eq_iff_iff]
      simp only [fineB, List.take_zero, List.all_nil, Bool.and_true, beq_iff_eq, decide_eq_true_eq]
      omega
    · trivial
    intro i hi _
    simp (config := {implicitDefEqProofs := false, maxSteps := 4000000}) (disch := omega) only [push_cast, c6, Nat.reduceAdd, Nat.reduceSub, Nat.reduceMul, Nat.reduceBEq, Int.reduceToNat, Int.reduceNeg, Int.reduceLE, Int.reduceLT, Int.reduceBEq, Int.reduceBNe, Int.reduceEq, Bool.not_true, Bool.not_false, eq_self, reduceCtorEq]
    refine ⟨fun hlt => ?_, fun hge => ?_⟩
    · rw [fineB_succ hlt]
      have hwi := hwm (words.getD i []) (by rw [List.getD_eq_getElem?_getD, List.getElem?_eq_getElem hlt]; exact List.getElem_mem _)
      refine ⟨fun hft => ⟨hlt, ?_⟩, fun hff => ⟨hlt, by rw [hff, Bool.false_and]⟩⟩
      refine callW_eq _ _ (f26 N O false false (by omega)) ?_
      simp (config := {implicitDefEqProofs := false, maxSteps := 4000000}) (disch := omega) only [push_cast, c6, Nat.reduceAdd, Nat.reduceSub, Nat.reduceMul, Nat.reduceBEq, Int.reduceToNat, Int.reduceNeg, Int.reduceLE, Int.reduceLT, Int.reduceBEq, Int.reduceBNe, Int.reduceEq, Bool.not_true, Bool.not_false, eq_self, reduceCtorEq]
      first | rw [hkN] | skip
      refine callW_eq _ _ (f27 kN (words.getD i []) false (by omega)) ?_
      simp (config := {implicitDefEqProofs := false, maxSteps := 4000000}) (disch := omega) only [push_cast, c6, Nat.reduceAdd, Nat.reduceSub, Nat.reduceMul, Nat.reduceBEq, Int.reduceToNat, Int.reduceNeg, Int.reduceLE, Int.reduceLT, Int.reduceBEq, Int.reduceBNe, Int.reduceEq, Bool.not_true, Bool.not_false, eq_self, reduceCtorEq]
      exact ⟨hlt, by rw [fineB_succ hlt, hft, Bool.true_and]⟩
    · have hie : i = words.length := by omega
      subst hie
      refine ⟨fun hff => ?_, fun hft => ?_⟩
      · rcases h9 with ⟨h | h, _⟩ | ⟨_, _, rfl, rfl⟩ | ⟨_, h1, h2, _⟩
        · rw [hv] at h; cases h
        · rw [hv2] at h; cases h
        · refine ⟨fun _ => ⟨fun _ => ?_, fun h => by cases h⟩, fun h => absurd rfl h⟩
          refine callW_eq _ _ (f11) ?_
          simp (config := {implicitDefEqProofs := false, maxSteps := 4000000}) (disch := omega) only [push_cast, c6, Nat.reduceAdd, Nat.reduceSub, Nat.reduceMul, Nat.reduceBEq, Int.reduceToNat, Int.reduceNeg, Int.reduceLE, Int.reduceLT, Int.reduceBEq, Int.reduceBNe, Int.reduceEq, Bool.not_true, Bool.not_false, eq_self, reduceCtorEq]
        · rw [hkN] at h1 h2
          rw [hkM] at h1
          rw [fineB, List.take_of_length_le (Nat.le_refl _), h2, h1, decide_eq_true rfl] at hff
          cases hff
      · rw [fineB, List.take_of_length_le (Nat.le_refl _), Bool.and_eq_true, decide_eq_true_eq] at hft
        rcases h9 with ⟨h | h, _⟩ | ⟨_, h1 | h1, _⟩ | ⟨_, h1, h2, rfl, rfl⟩
        · rw [hv] at h; cases h
        · rw [hv2] at h; cases h
        · rw [hkN, hkM] at h1; exact absurd hft.1 h1
        · rw [hkN, hft.2] at h1; cases h1
        · refine ⟨fun _ => ?_, fun h => absurd rfl h⟩
          rw [← hft.1] at hV2
          refine callW_eq _ _ (f28 N O M Q false false false false words false kN hV hV2 (by omega) (List.all_eq_true.1 hft.2)) ?_
          simp (config := {implicitDefEqProofs := false, maxSteps := 4000000}) (disch := omega) only [push_cast, c6, Nat.reduceAdd, Nat.reduceSub, Nat.reduceMul, Nat.reduceBEq, Int.reduceToNat, Int.reduceNeg, Int.reduceLE, Int.reduceLT, Int.reduceBEq, Int.reduceBNe, Int.reduceEq, Bool.not_true, Bool.not_false, eq_self, reduceCtorEq]
          refine callW_eq _ _ (f11) ?_
          simp (config := {implicitDefEqProofs := false, maxSteps := 4000000}) (disch := omega) only [push_cast, c6, Nat.reduceAdd, Nat.reduceSub, Nat.reduceMul, Nat.reduceBEq, Int.reduceToNat, Int.reduceNeg, Int.reduceLE, Int.reduceLT, Int.reduceBEq, Int.reduceBNe, Int.reduceEq, Bool.not_true, Bool.not_false, eq_self, reduceCtorEq]
theorem lawCheckPasses (N O M Q : List (List Int)) (words : List (List Int)) (hl : N.length ≤ 4611686018427387904) (_ : ∀ r ∈ N, r.length ≤ 4611686018427387904) (ho : O.length ≤ 4611686018427387904) (_ : ∀ r ∈ O, r.length ≤ 4611686018427387904) (hm : M.length ≤ 4611686018427387904) (_ : ∀ r ∈ M, r.length ≤ 4611686018427387904) (hq : Q.length ≤ 4611686018427387904) (_ : ∀ r ∈ Q, r.length ≤ 4611686018427387904) (hwl : words.length ≤ 17592186044416) (hww : ∀ r ∈ words, r.length ≤ 17592186044416) :
    ACall Try.prog 6 [.agg [.pay (.rows (N)) (false), .pay (.rows (O)) (false)], .agg [.pay (.rows (M)) (false), .pay (.rows (Q)) (false)], .pay (.rows words) false] (fun r objs => r = .bool true ∧ objs = []) := f6 N O M Q words hl ho hm hq hwl hww
end Go.AM
end

/-
  Contract of MealyParts; conditions in each statement.
-/
import Derived.Test.YthgglfpklgjibaaDoorS11
set_option linter.unusedVariables false
set_option linter.unusedSimpArgs false
set_option linter.unusedSectionVars false

/-! text Ud19 -/
section
namespace Go.AM
open Go Go.Proofs
theorem rn_bad {N O : List (List Int)} (z z' y : Bool) (s : Int) (w : List Int) (hb : nbB N O) (hw : w.length ≤ 4611686018427387904) (hv : ¬ (vmB N O = true ∧ (0 ≤ s ∧ s < N.length) ∧ wordB (N.getD 0 []).length w = true)) :
    ACall Tryd.prog 29 [.agg [.pay (.rows (N)) (z), .pay (.rows (O)) (z')], .int .i64 s, .pay (.ints .i64 w) y] (fun r objs => ∃ e, e ≠ 0 ∧ r = .tup [.pay (.ints .i64 []) true, .int .i64 0, .int .i64 e] ∧ objs = []) := by
  refine (f29 N O z z' y s w hb.1.1 hb.1.2 hb.2.1 hb.2.2 hw).mono ?_
  rintro r objs ⟨out, t, e, ⟨_, rfl, rfl, rfl⟩ | ⟨_, _, rfl, rfl, rfl⟩ | ⟨h1, h2, _⟩, rfl, rfl⟩
  · exact ⟨1, by decide, rfl, rfl⟩
  · exact ⟨2, by decide, rfl, rfl⟩
  · exact absurd ⟨h1, h2⟩ hv
theorem rn_wd {N O : List (List Int)} (z z' y : Bool) (s : Int) (w : List Int) (hb : nbB N O) (hw : w.length ≤ 4611686018427387904) (hv : vmB N O = true) (hx : ¬ ((0 ≤ s ∧ s < N.length) ∧ wordB (N.getD 0 []).length w = true)) :
    ACall Tryd.prog 29 [.agg [.pay (.rows (N)) (z), .pay (.rows (O)) (z')], .int .i64 s, .pay (.ints .i64 w) y] (fun r objs => r = .tup [.pay (.ints .i64 []) true, .int .i64 0, .int .i64 2] ∧ objs = []) := by
  refine (f29 N O z z' y s w hb.1.1 hb.1.2 hb.2.1 hb.2.2 hw).mono ?_
  rintro r objs ⟨out, t, e, ⟨h, rfl, rfl, rfl⟩ | ⟨_, _, rfl, rfl, rfl⟩ | ⟨_, h2, _⟩, rfl, rfl⟩
  · rw [hv] at h; cases h
  · exact ⟨rfl, rfl⟩
  · exact absurd h2 hx
theorem rn_ok {N O : List (List Int)} (z z' y : Bool) (s : Int) (w : List Int) (hb : nbB N O) (hw : w.length ≤ 4611686018427387904) (hv : vmB N O = true) (hx : (0 ≤ s ∧ s < N.length) ∧ wordB (N.getD 0 []).length w = true) :
    ACall Tryd.prog 29 [.agg [.pay (.rows (N)) (z), .pay (.rows (O)) (z')], .int .i64 s, .pay (.ints .i64 w) y] (fun r objs => r = .tup [.pay (.ints .i64 (outsG N O s w)) true, .int .i64 (leadG N s w), .int .i64 0] ∧ objs = []) := by
  refine (f29 N O z z' y s w hb.1.1 hb.1.2 hb.2.1 hb.2.2 hw).mono ?_
  rintro r objs ⟨out, t, e, h, rfl, rfl⟩
  obtain ⟨rfl, rfl, rfl⟩ := h.ok hv hx
  exact ⟨rfl, rfl⟩
theorem leadM_app (a : List (List Int)) : ∀ (u : List Int) (s : Int) (v : List Int), leadG a s (u ++ v) = leadG a (leadG a s u) v
  | [], _, _ => rfl
  | x :: u, s, v => leadM_app a u _ v
/- mizmaze/mizmazelaw07.MealyParts -/
def c8 : VCfg := ⟨⟨[], [], [], [0, 1, 2, 3, 4, 8, 9, 10, 11, 12, 13, 14, 15, 16, 17, 29, 40, 63]⟩, [(7, (.op 0 .strict (.op 1 .strict (.op 3 .strict (.op 5 .strict (.op 2 .eff (.op 4 .eff (.op 6 .eff (.op 7 .eff (.op 8 .loose (.op 9 .loose (.op 10 .loose (.op 11 .loose (.op 12 .loose (.op 13 .loose (.op 14 .loose .nil))))))))))))))))], [], []⟩
set_option maxHeartbeats 8000000 in
set_option maxRecDepth 100000 in
theorem f8 (N O : List (List Int)) (s : Int) (u v : List Int) (hl : N.length ≤ 4611686018427387904) (hl2 : O.length ≤ 4611686018427387904) (hul : u.length ≤ 17592186044416) (hvl : v.length ≤ 17592186044416) :
    ACall Tryd.prog 8 [.agg [.pay (.rows (N)) (false), .pay (.rows (O)) (false)], .int .i64 s, .pay (.ints .i64 u) false, .pay (.ints .i64 v) false] (fun r objs => r = .bool true ∧ objs = []) := by
  refine acall_intro (tyP_ok _) c8 2000 [.tmp 8] Tryd.func8 rfl (by rfl) rfl (by kernel_rfl) ?_
  unfold Tryd.f8
  simp (config := {implicitDefEqProofs := false, maxSteps := 4000000}) (disch := omega) only [push_cast, c8, Nat.reduceAdd, Nat.reduceSub, Nat.reduceMul, Nat.reduceBEq, Int.reduceToNat, Int.reduceNeg, Int.reduceLE, Int.reduceLT, Int.reduceBEq, Int.reduceBNe, Int.reduceEq, Bool.not_true, Bool.not_false, eq_self, reduceCtorEq]
  refine callW_rel (f11 N O false false hl hl2) ?_
  rintro R O' ⟨b, rfl, hb, rfl⟩
  simp (config := {implicitDefEqProofs := false, maxSteps := 4000000}) (disch := omega) only [push_cast, c8, Nat.reduceAdd, Nat.reduceSub, Nat.reduceMul, Nat.reduceBEq, Int.reduceToNat, Int.reduceNeg, Int.reduceLE, Int.reduceLT, Int.reduceBEq, Int.reduceBNe, Int.reduceEq, Bool.not_true, Bool.not_false, eq_self, reduceCtorEq]
  refine ⟨fun h => ?_, fun h => ?_⟩
  · refine callW_eq _ _ (f12) ?_
    simp (config := {implicitDefEqProofs := false, maxSteps := 4000000}) (disch := omega) only [push_cast, c8, Nat.reduceAdd, Nat.reduceSub, Nat.reduceMul, Nat.reduceBEq, Int.reduceToNat, Int.reduceNeg, Int.reduceLE, Int.reduceLT, Int.reduceBEq, Int.reduceBNe, Int.reduceEq, Bool.not_true, Bool.not_false, eq_self, reduceCtorEq]
  have hb := nb (hb h)
  refine ⟨fun h => ?_, fun hu => ?_⟩
  · refine callW_eq _ _ (f12) ?_
    simp (config := {implicitDefEqProofs := false, maxSteps := 4000000}) (disch := omega) only [push_cast, c8, Nat.reduceAdd, Nat.reduceSub, Nat.reduceMul, Nat.reduceBEq, Int.reduceToNat, Int.reduceNeg, Int.reduceLE, Int.reduceLT, Int.reduceBEq, Int.reduceBNe, Int.reduceEq, Bool.not_true, Bool.not_false, eq_self, reduceCtorEq]
  refine ⟨fun h => ?_, fun hw => ?_⟩
  · refine callW_eq _ _ (f12) ?_
    simp (config := {implicitDefEqProofs := false, maxSteps := 4000000}) (disch := omega) only [push_cast, c8, Nat.reduceAdd, Nat.reduceSub, Nat.reduceMul, Nat.reduceBEq, Int.reduceToNat, Int.reduceNeg, Int.reduceLE, Int.reduceLT, Int.reduceBEq, Int.reduceBNe, Int.reduceEq, Bool.not_true, Bool.not_false, eq_self, reduceCtorEq]
  by_cases hx : vmB N O = true ∧ (0 ≤ s ∧ s < N.length) ∧ wordB (N.getD 0 []).length u = true
  · obtain ⟨hv, hx⟩ := hx
    have hV := vmB_iff.1 hv
    have hx2 := (wordB_iff.1 hx.2).2
    have ht := hV.v.lead u hx.1.1 hx.1.2 hx2
    have ho1 := outsG_len N O u s
    refine callW_eq _ _ (rn_ok false false false s u hb (by omega) hv hx) ?_
    simp (config := {implicitDefEqProofs := false, maxSteps := 4000000}) (disch := omega) only [push_cast, c8, Nat.reduceAdd, Nat.reduceSub, Nat.reduceMul, Nat.reduceBEq, Int.reduceToNat, Int.reduceNeg, Int.reduceLE, Int.reduceLT, Int.reduceBEq, Int.reduceBNe, Int.reduceEq, Bool.not_true, Bool.not_false, eq_self, reduceCtorEq]
    cases hy : wordB (N.getD 0 []).length v with
    | true =>
      have hy2 := (wordB_iff.1 hy).2
      have hz : wordB (N.getD 0 []).length (u ++ v) = true := wordB_iff.2 ⟨by simp; omega, fun x hx => by
        rcases List.mem_append.1 hx with hx | hx
        · exact hx2 x hx
        · exact hy2 x hx⟩
      have ho2 := outsG_len N O v (leadG N s u)
      refine callW_eq _ _ (rn_ok false false false _ v hb (by omega) hv ⟨ht, hy⟩) ?_
      simp (config := {implicitDefEqProofs := false, maxSteps := 4000000}) (disch := omega) only [push_cast, c8, Nat.reduceAdd, Nat.reduceSub, Nat.reduceMul, Nat.reduceBEq, Int.reduceToNat, Int.reduceNeg, Int.reduceLE, Int.reduceLT, Int.reduceBEq, Int.reduceBNe, Int.reduceEq, Bool.not_true, Bool.not_false, eq_self, reduceCtorEq]
      refine ⟨by omega, by omega, ?_⟩
      refine callW_eq _ _ (rn_ok false false false s (u ++ v) hb (by simp; omega) hv ⟨hx.1, hz⟩) ?_
      simp (config := {implicitDefEqProofs := false, maxSteps := 4000000}) (disch := omega) only [push_cast, c8, Nat.reduceAdd, Nat.reduceSub, Nat.reduceMul, Nat.reduceBEq, Int.reduceToNat, Int.reduceNeg, Int.reduceLE, Int.reduceLT, Int.reduceBEq, Int.reduceBNe, Int.reduceEq, Bool.not_true, Bool.not_false, eq_self, reduceCtorEq]
      rw [← leadM_app, ← outsG_append]
      refine ⟨fun _ => ?_, fun h => absurd rfl h⟩
      refine ⟨by omega, by omega, ?_⟩
      refine callW_eq _ _ (f17 _ _ _ _ (by rw [outsG_len]; simp; omega)) ?_
      simp (config := {implicitDefEqProofs := false, maxSteps := 4000000}) (disch := omega) only [push_cast, c8, Nat.reduceAdd, Nat.reduceSub, Nat.reduceMul, Nat.reduceBEq, Int.reduceToNat, Int.reduceNeg, Int.reduceLE, Int.reduceLT, Int.reduceBEq, Int.reduceBNe, Int.reduceEq, Bool.not_true, Bool.not_false, eq_self, reduceCtorEq]
      refine callW_eq _ _ (f12) ?_
      simp (config := {implicitDefEqProofs := false, maxSteps := 4000000}) (disch := omega) only [push_cast, c8, Nat.reduceAdd, Nat.reduceSub, Nat.reduceMul, Nat.reduceBEq, Int.reduceToNat, Int.reduceNeg, Int.reduceLE, Int.reduceLT, Int.reduceBEq, Int.reduceBNe, Int.reduceEq, Bool.not_true, Bool.not_false, eq_self, reduceCtorEq]
    | false =>
      have hz : wordB (N.getD 0 []).length (u ++ v) ≠ true := fun h => by
        have h2 := wordB_iff.1 h
        have : wordB (N.getD 0 []).length v = true := wordB_iff.2 ⟨by omega, fun x hx => h2.2 x (List.mem_append.2 (.inr hx))⟩
        rw [hy] at this; cases this
      refine callW_eq _ _ (rn_wd false false false _ v hb (by omega) hv (fun h => by rw [hy] at h; cases h.2)) ?_
      simp (config := {implicitDefEqProofs := false, maxSteps := 4000000}) (disch := omega) only [push_cast, c8, Nat.reduceAdd, Nat.reduceSub, Nat.reduceMul, Nat.reduceBEq, Int.reduceToNat, Int.reduceNeg, Int.reduceLE, Int.reduceLT, Int.reduceBEq, Int.reduceBNe, Int.reduceEq, Bool.not_true, Bool.not_false, eq_self, reduceCtorEq]
      refine ⟨by omega, by omega, ?_⟩
      refine callW_eq _ _ (rn_wd false false false s (u ++ v) hb (by simp; omega) hv (fun h => hz h.2)) ?_
      simp (config := {implicitDefEqProofs := false, maxSteps := 4000000}) (disch := omega) only [push_cast, c8, Nat.reduceAdd, Nat.reduceSub, Nat.reduceMul, Nat.reduceBEq, Int.reduceToNat, Int.reduceNeg, Int.reduceLE, Int.reduceLT, Int.reduceBEq, Int.reduceBNe, Int.reduceEq, Bool.not_true, Bool.not_false, eq_self, reduceCtorEq]
      refine callW_eq _ _ (f12) ?_
      simp (config := {implicitDefEqProofs := false, maxSteps := 4000000}) (disch := omega) only [push_cast, c8, Nat.reduceAdd, Nat.reduceSub, Nat.reduceMul, Nat.reduceBEq, Int.reduceToNat, Int.reduceNeg, Int.reduceLE, Int.reduceLT, Int.reduceBEq, Int.reduceBNe, Int.reduceEq, Bool.not_true, Bool.not_false, eq_self, reduceCtorEq]
  · refine callW_rel (rn_bad false false false s u hb (by omega) hx) ?_
    rintro R O' ⟨e, he, rfl, rfl⟩
    simp (config := {implicitDefEqProofs := false, maxSteps := 4000000}) (disch := omega) only [push_cast, c8, Nat.reduceAdd, Nat.reduceSub, Nat.reduceMul, Nat.reduceBEq, Int.reduceToNat, Int.reduceNeg, Int.reduceLE, Int.reduceLT, Int.reduceBEq, Int.reduceBNe, Int.reduceEq, Bool.not_true, Bool.not_false, eq_self, reduceCtorEq]
    refine ⟨fun _ => ?_, fun h => absurd h he⟩
    refine callW_eq _ _ (f12) ?_
    simp (config := {implicitDefEqProofs := false, maxSteps := 4000000}) (disch := omega) only [push_cast, c8, Nat.reduceAdd, Nat.reduceSub, Nat.reduceMul, Nat.reduceBEq, Int.reduceToNat, Int.reduceNeg, Int.reduceLE, Int.reduceLT, Int.reduceBEq, Int.reduceBNe, Int.reduceEq, Bool.not_true, Bool.not_false, eq_self, reduceCtorEq]
theorem lawMealyParts (N O : List (List Int)) (s : Int) (u v : List Int) (hl : N.length ≤ 4611686018427387904) (_ : ∀ r ∈ N, r.length ≤ 4611686018427387904) (ho : O.length ≤ 4611686018427387904) (_ : ∀ r ∈ O, r.length ≤ 4611686018427387904) (hul : u.length ≤ 17592186044416) (hvl : v.length ≤ 17592186044416) :
    ACall Tryd.prog 8 [.agg [.pay (.rows (N)) (false), .pay (.rows (O)) (false)], .int .i64 s, .pay (.ints .i64 u) false, .pay (.ints .i64 v) false] (fun r objs => r = .bool true ∧ objs = []) := f8 N O s u v hl ho hul hvl
end Go.AM
end

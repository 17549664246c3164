/-
  Contract of MealyForms; conditions in each statement.
-/
import Derived.Test.YthgglfpklgjibaaGreatDoorS6
set_option linter.unusedVariables false
set_option linter.unusedSimpArgs false
set_option linter.unusedSectionVars false

/-! text Ue17 -/
section
namespace Go.AM
open Go Go.Proofs
theorem nb {N O : List (List Int)} (h : (N.length ≤ 100 ∧ ∀ r ∈ N, r.length ≤ 100) ∧ O.length ≤ 100 ∧ ∀ r ∈ O, r.length ≤ 100) : (N.length ≤ 4611686018427387904 ∧ ∀ r ∈ N, r.length ≤ 4611686018427387904) ∧ O.length ≤ 4611686018427387904 ∧ ∀ r ∈ O, r.length ≤ 4611686018427387904 :=
  ⟨⟨by have := h.1.1; omega, fun r hr => by have := h.1.2 r hr; omega⟩, by have := h.2.1; omega, fun r hr => by have := h.2.2 r hr; omega⟩
abbrev nbB (N O : List (List Int)) : Prop := (N.length ≤ 4611686018427387904 ∧ ∀ r ∈ N, r.length ≤ 4611686018427387904) ∧ O.length ≤ 4611686018427387904 ∧ ∀ r ∈ O, r.length ≤ 4611686018427387904
theorem rn_f {N O : List (List Int)} (z z' y : Bool) (s : Int) (w : List Int) (hb : nbB N O) (hw : w.length ≤ 4611686018427387904) (hv : vmB N O = false) :
    ACall Tryz.prog 6 [.agg [.pay (.rows (N)) (z), .pay (.rows (O)) (z')], .int .i64 s, .pay (.ints .i64 w) y] (fun r objs => r = .tup [.pay (.ints .i64 []) true, .int .i64 0, .int .i64 1] ∧ objs = []) := by
  refine (f6 N O z z' y s w hb.1.1 hb.1.2 hb.2.1 hb.2.2 hw).mono ?_
  rintro r objs ⟨out, t, e, ⟨_, rfl, rfl, rfl⟩ | ⟨h, _⟩ | ⟨h, _⟩, rfl, rfl⟩
  · exact ⟨rfl, rfl⟩
  · rw [hv] at h; cases h
  · rw [hv] at h; cases h
theorem rn_wd {N O : List (List Int)} (z z' y : Bool) (s : Int) (w : List Int) (hb : nbB N O) (hw : w.length ≤ 4611686018427387904) (hv : vmB N O = true) (hx : ¬ ((0 ≤ s ∧ s < N.length) ∧ wordB (N.getD 0 []).length w = true)) :
    ACall Tryz.prog 6 [.agg [.pay (.rows (N)) (z), .pay (.rows (O)) (z')], .int .i64 s, .pay (.ints .i64 w) y] (fun r objs => r = .tup [.pay (.ints .i64 []) true, .int .i64 0, .int .i64 2] ∧ objs = []) := by
  refine (f6 N O z z' y s w hb.1.1 hb.1.2 hb.2.1 hb.2.2 hw).mono ?_
  rintro r objs ⟨out, t, e, ⟨h, rfl, rfl, rfl⟩ | ⟨_, _, rfl, rfl, rfl⟩ | ⟨_, h2, _⟩, rfl, rfl⟩
  · rw [hv] at h; cases h
  · exact ⟨rfl, rfl⟩
  · exact absurd h2 hx
theorem rn_ok {N O : List (List Int)} (z z' y : Bool) (s : Int) (w : List Int) (hb : nbB N O) (hw : w.length ≤ 4611686018427387904) (hv : vmB N O = true) (hx : (0 ≤ s ∧ s < N.length) ∧ wordB (N.getD 0 []).length w = true) :
    ACall Tryz.prog 6 [.agg [.pay (.rows (N)) (z), .pay (.rows (O)) (z')], .int .i64 s, .pay (.ints .i64 w) y] (fun r objs => r = .tup [.pay (.ints .i64 (outsG N O s w)) true, .int .i64 (leadG N s w), .int .i64 0] ∧ objs = []) := by
  refine (f6 N O z z' y s w hb.1.1 hb.1.2 hb.2.1 hb.2.2 hw).mono ?_
  rintro r objs ⟨out, t, e, h, rfl, rfl⟩
  obtain ⟨rfl, rfl, rfl⟩ := h.ok hv hx
  exact ⟨rfl, rfl⟩
theorem re_f {N O : List (List Int)} (z z' : Bool) (s : Int) (hb : nbB N O) (hv : vmB N O = false) :
    ACall Tryz.prog 7 [.agg [.pay (.rows (N)) (z), .pay (.rows (O)) (z')], .int .i64 s] (fun r objs => ∃ nz, r = .tup [.pay (.ints .i64 []) nz, .int .i64 1] ∧ objs = []) := by
  refine (f7 N O z z' s hb.1.1 hb.1.2 hb.2.1 hb.2.2).mono ?_
  rintro r objs ⟨l, e, nz, ⟨_, rfl, rfl⟩ | ⟨h, _⟩ | ⟨h, _⟩, rfl, rfl⟩
  · exact ⟨nz, rfl, rfl⟩
  · rw [hv] at h; cases h
  · rw [hv] at h; cases h
theorem re_o {N O : List (List Int)} (z z' : Bool) (s : Int) (hb : nbB N O) (hv : vmB N O = true) (hs : ¬ (0 ≤ s ∧ s < N.length)) :
    ACall Tryz.prog 7 [.agg [.pay (.rows (N)) (z), .pay (.rows (O)) (z')], .int .i64 s] (fun r objs => ∃ nz, r = .tup [.pay (.ints .i64 []) nz, .int .i64 2] ∧ objs = []) := by
  refine (f7 N O z z' s hb.1.1 hb.1.2 hb.2.1 hb.2.2).mono ?_
  rintro r objs ⟨l, e, nz, ⟨h, _⟩ | ⟨_, _, rfl, rfl⟩ | ⟨_, h, _⟩, rfl, rfl⟩
  · rw [hv] at h; cases h
  · exact ⟨nz, rfl, rfl⟩
  · exact absurd h hs
theorem re_k {N O : List (List Int)} (z z' : Bool) (s : Int) (hb : nbB N O) (hv : vmB N O = true) (hs : 0 ≤ s ∧ s < N.length) :
    ACall Tryz.prog 7 [.agg [.pay (.rows (N)) (z), .pay (.rows (O)) (z')], .int .i64 s] (fun r objs => ∃ nz, r = .tup [.pay (.ints .i64 (reachL N (N.getD 0 []).length s)) nz, .int .i64 0] ∧ objs = []) := by
  refine (f7 N O z z' s hb.1.1 hb.1.2 hb.2.1 hb.2.2).mono ?_
  rintro r objs ⟨l, e, nz, ⟨h, _⟩ | ⟨_, h, _⟩ | ⟨_, _, rfl, rfl⟩, rfl, rfl⟩
  · rw [hv] at h; cases h
  · exact absurd hs h
  · exact ⟨nz, rfl, rfl⟩
/- mizmaze/mizmazelaw07.MealyForms -/
def c3 : VCfg := ⟨⟨[], [], [], [0, 1, 2, 3, 6, 7, 8, 9, 10, 11, 12, 13, 20, 40, 43, 69, 101, 106]⟩, [(5, (.op 0 .loose (.op 2 .loose (.op 1 .eff (.op 3 .eff (.op 4 .loose .nil))))))], [], []⟩
set_option maxHeartbeats 8000000 in
set_option maxRecDepth 100000 in
theorem f3 (N O : List (List Int)) (s : Int) (w : List Int) (hl : N.length ≤ 4611686018427387904) (hl2 : O.length ≤ 4611686018427387904) (hwl : w.length ≤ 17592186044416) :
    ACall Tryz.prog 3 [.agg [.pay (.rows (N)) (false), .pay (.rows (O)) (false)], .int .i64 s, .pay (.ints .i64 w) false] (fun r objs => r = .bool true ∧ objs = []) := by
  refine acall_intro (tyP_ok _) c3 2000 [.tmp 6] Tryz.func3 rfl (by rfl) rfl (by kernel_rfl) ?_
  unfold Tryz.f3
  simp (config := {implicitDefEqProofs := false, maxSteps := 4000000}) (disch := omega) only [push_cast, c3, Nat.reduceAdd, Nat.reduceSub, Nat.reduceMul, Nat.reduceBEq, Int.reduceToNat, Int.reduceNeg, Int.reduceLE, Int.reduceLT, Int.reduceBEq, Int.reduceBNe, Int.reduceEq, Bool.not_true, Bool.not_false, eq_self, reduceCtorEq]
  refine callW_rel (f4 N O false false hl hl2) ?_
  rintro R O' ⟨b, rfl, hb, rfl⟩
  simp (config := {implicitDefEqProofs := false, maxSteps := 4000000}) (disch := omega) only [push_cast, c3, Nat.reduceAdd, Nat.reduceSub, Nat.reduceMul, Nat.reduceBEq, Int.reduceToNat, Int.reduceNeg, Int.reduceLE, Int.reduceLT, Int.reduceBEq, Int.reduceBNe, Int.reduceEq, Bool.not_true, Bool.not_false, eq_self, reduceCtorEq]
  refine ⟨fun h => ?_, fun h => ?_⟩
  · refine callW_eq _ _ (f5) ?_
    simp (config := {implicitDefEqProofs := false, maxSteps := 4000000}) (disch := omega) only [push_cast, c3, Nat.reduceAdd, Nat.reduceSub, Nat.reduceMul, Nat.reduceBEq, Int.reduceToNat, Int.reduceNeg, Int.reduceLE, Int.reduceLT, Int.reduceBEq, Int.reduceBNe, Int.reduceEq, Bool.not_true, Bool.not_false, eq_self, reduceCtorEq]
  have hb := nb (hb h)
  refine ⟨fun h => ?_, fun hw => ?_⟩
  · refine callW_eq _ _ (f5) ?_
    simp (config := {implicitDefEqProofs := false, maxSteps := 4000000}) (disch := omega) only [push_cast, c3, Nat.reduceAdd, Nat.reduceSub, Nat.reduceMul, Nat.reduceBEq, Int.reduceToNat, Int.reduceNeg, Int.reduceLE, Int.reduceLT, Int.reduceBEq, Int.reduceBNe, Int.reduceEq, Bool.not_true, Bool.not_false, eq_self, reduceCtorEq]
  cases hv : vmB N O with
  | false =>
    refine callW_eq _ _ (rn_f false false false s w hb (by omega) hv) ?_
    simp (config := {implicitDefEqProofs := false, maxSteps := 4000000}) (disch := omega) only [push_cast, c3, Nat.reduceAdd, Nat.reduceSub, Nat.reduceMul, Nat.reduceBEq, Int.reduceToNat, Int.reduceNeg, Int.reduceLE, Int.reduceLT, Int.reduceBEq, Int.reduceBNe, Int.reduceEq, Bool.not_true, Bool.not_false, eq_self, reduceCtorEq]
    refine callW_rel (re_f false false s hb hv) ?_
    rintro R O' ⟨nz, rfl, rfl⟩
    simp (config := {implicitDefEqProofs := false, maxSteps := 4000000}) (disch := omega) only [push_cast, c3, Nat.reduceAdd, Nat.reduceSub, Nat.reduceMul, Nat.reduceBEq, Int.reduceToNat, Int.reduceNeg, Int.reduceLE, Int.reduceLT, Int.reduceBEq, Int.reduceBNe, Int.reduceEq, Bool.not_true, Bool.not_false, eq_self, reduceCtorEq]
    refine callW_eq _ _ (f8 N O false false hb.1.1 hb.1.2 hb.2.1 hb.2.2) ?_
    simp (config := {implicitDefEqProofs := false, maxSteps := 4000000}) (disch := omega) only [push_cast, c3, Nat.reduceAdd, Nat.reduceSub, Nat.reduceMul, Nat.reduceBEq, Int.reduceToNat, Int.reduceNeg, Int.reduceLE, Int.reduceLT, Int.reduceBEq, Int.reduceBNe, Int.reduceEq, Bool.not_true, Bool.not_false, eq_self, reduceCtorEq]
    refine callW_eq _ _ (f9 N O false false hb.1.1 hb.1.2 hb.2.1 hb.2.2) ?_
    simp (config := {implicitDefEqProofs := false, maxSteps := 4000000}) (disch := omega) only [push_cast, c3, Nat.reduceAdd, Nat.reduceSub, Nat.reduceMul, Nat.reduceBEq, Int.reduceToNat, Int.reduceNeg, Int.reduceLE, Int.reduceLT, Int.reduceBEq, Int.reduceBNe, Int.reduceEq, Bool.not_true, Bool.not_false, eq_self, reduceCtorEq]
    refine callW_eq _ _ (f9 N O false false hb.1.1 hb.1.2 hb.2.1 hb.2.2) ?_
    simp (config := {implicitDefEqProofs := false, maxSteps := 4000000}) (disch := omega) only [push_cast, c3, Nat.reduceAdd, Nat.reduceSub, Nat.reduceMul, Nat.reduceBEq, Int.reduceToNat, Int.reduceNeg, Int.reduceLE, Int.reduceLT, Int.reduceBEq, Int.reduceBNe, Int.reduceEq, Bool.not_true, Bool.not_false, eq_self, reduceCtorEq]
    refine ⟨fun _ => ?_, fun h => by rw [hv] at h; cases h⟩
    refine ⟨fun _ => ?_, fun h => h rfl⟩
    refine callW_eq _ _ (f5) ?_
    simp (config := {implicitDefEqProofs := false, maxSteps := 4000000}) (disch := omega) only [push_cast, c3, Nat.reduceAdd, Nat.reduceSub, Nat.reduceMul, Nat.reduceBEq, Int.reduceToNat, Int.reduceNeg, Int.reduceLE, Int.reduceLT, Int.reduceBEq, Int.reduceBNe, Int.reduceEq, Bool.not_true, Bool.not_false, eq_self, reduceCtorEq]
  | true =>
    have hV := vmB_iff.1 hv
    have hn := hV.v.n2
    have hn1 := hV.v.n1
    by_cases hs : 0 ≤ s ∧ s < N.length
    · cases hwb : wordB (N.getD 0 []).length w with
      | false =>
        refine callW_eq _ _ (rn_wd false false false s w hb (by omega) hv (fun h => by rw [hwb] at h; cases h.2)) ?_
        simp (config := {implicitDefEqProofs := false, maxSteps := 4000000}) (disch := omega) only [push_cast, c3, Nat.reduceAdd, Nat.reduceSub, Nat.reduceMul, Nat.reduceBEq, Int.reduceToNat, Int.reduceNeg, Int.reduceLE, Int.reduceLT, Int.reduceBEq, Int.reduceBNe, Int.reduceEq, Bool.not_true, Bool.not_false, eq_self, reduceCtorEq]
        refine callW_rel (re_k false false s hb hv hs) ?_
        rintro R O' ⟨nz, rfl, rfl⟩
        simp (config := {implicitDefEqProofs := false, maxSteps := 4000000}) (disch := omega) only [push_cast, c3, Nat.reduceAdd, Nat.reduceSub, Nat.reduceMul, Nat.reduceBEq, Int.reduceToNat, Int.reduceNeg, Int.reduceLE, Int.reduceLT, Int.reduceBEq, Int.reduceBNe, Int.reduceEq, Bool.not_true, Bool.not_false, eq_self, reduceCtorEq]
        refine callW_eq _ _ (f8 N O false false hb.1.1 hb.1.2 hb.2.1 hb.2.2) ?_
        simp (config := {implicitDefEqProofs := false, maxSteps := 4000000}) (disch := omega) only [push_cast, c3, Nat.reduceAdd, Nat.reduceSub, Nat.reduceMul, Nat.reduceBEq, Int.reduceToNat, Int.reduceNeg, Int.reduceLE, Int.reduceLT, Int.reduceBEq, Int.reduceBNe, Int.reduceEq, Bool.not_true, Bool.not_false, eq_self, reduceCtorEq]
        refine callW_eq _ _ (f9 N O false false hb.1.1 hb.1.2 hb.2.1 hb.2.2) ?_
        simp (config := {implicitDefEqProofs := false, maxSteps := 4000000}) (disch := omega) only [push_cast, c3, Nat.reduceAdd, Nat.reduceSub, Nat.reduceMul, Nat.reduceBEq, Int.reduceToNat, Int.reduceNeg, Int.reduceLE, Int.reduceLT, Int.reduceBEq, Int.reduceBNe, Int.reduceEq, Bool.not_true, Bool.not_false, eq_self, reduceCtorEq]
        refine callW_eq _ _ (f9 N O false false hb.1.1 hb.1.2 hb.2.1 hb.2.2) ?_
        simp (config := {implicitDefEqProofs := false, maxSteps := 4000000}) (disch := omega) only [push_cast, c3, Nat.reduceAdd, Nat.reduceSub, Nat.reduceMul, Nat.reduceBEq, Int.reduceToNat, Int.reduceNeg, Int.reduceLE, Int.reduceLT, Int.reduceBEq, Int.reduceBNe, Int.reduceEq, Bool.not_true, Bool.not_false, eq_self, reduceCtorEq]
        refine ⟨fun h => (by rw [hv] at h; cases h), fun _ => ?_⟩
        refine callW_eq _ _ (f10 N O false false s) ?_
        simp (config := {implicitDefEqProofs := false, maxSteps := 4000000}) (disch := omega) only [push_cast, c3, Nat.reduceAdd, Nat.reduceSub, Nat.reduceMul, Nat.reduceBEq, Int.reduceToNat, Int.reduceNeg, Int.reduceLE, Int.reduceLT, Int.reduceBEq, Int.reduceBNe, Int.reduceEq, Bool.not_true, Bool.not_false, eq_self, reduceCtorEq]
        refine ⟨fun h => absurd hs h, fun _ => ?_⟩
        refine callW_rel (f12 N O false false s _ hV hs) ?_
        rintro R O' ⟨nz2, rfl, rfl⟩
        simp (config := {implicitDefEqProofs := false, maxSteps := 4000000}) (disch := omega) only [push_cast, c3, Nat.reduceAdd, Nat.reduceSub, Nat.reduceMul, Nat.reduceBEq, Int.reduceToNat, Int.reduceNeg, Int.reduceLE, Int.reduceLT, Int.reduceBEq, Int.reduceBNe, Int.reduceEq, Bool.not_true, Bool.not_false, eq_self, reduceCtorEq]
        refine callW_eq _ _ (f11 _ _ _ _ (by have := fromTo_len N.length fun t => decide (t ∈ (finN N (N.getD 0 []).length s).1); unfold reachL; omega)) ?_
        simp (config := {implicitDefEqProofs := false, maxSteps := 4000000}) (disch := omega) only [push_cast, c3, Nat.reduceAdd, Nat.reduceSub, Nat.reduceMul, Nat.reduceBEq, Int.reduceToNat, Int.reduceNeg, Int.reduceLE, Int.reduceLT, Int.reduceBEq, Int.reduceBNe, Int.reduceEq, Bool.not_true, Bool.not_false, eq_self, reduceCtorEq]
        refine callW_eq _ _ (f14 N O false false (by omega)) ?_
        simp (config := {implicitDefEqProofs := false, maxSteps := 4000000}) (disch := omega) only [push_cast, c3, Nat.reduceAdd, Nat.reduceSub, Nat.reduceMul, Nat.reduceBEq, Int.reduceToNat, Int.reduceNeg, Int.reduceLE, Int.reduceLT, Int.reduceBEq, Int.reduceBNe, Int.reduceEq, Bool.not_true, Bool.not_false, eq_self, reduceCtorEq]
        refine callW_eq _ _ (f13 (N.getD 0 []).length w false (by omega)) ?_
        simp (config := {implicitDefEqProofs := false, maxSteps := 4000000}) (disch := omega) only [push_cast, c3, Nat.reduceAdd, Nat.reduceSub, Nat.reduceMul, Nat.reduceBEq, Int.reduceToNat, Int.reduceNeg, Int.reduceLE, Int.reduceLT, Int.reduceBEq, Int.reduceBNe, Int.reduceEq, Bool.not_true, Bool.not_false, eq_self, reduceCtorEq]
        refine ⟨fun _ => ?_, fun h => (by rw [hwb] at h; cases h)⟩
        refine callW_eq _ _ (f5) ?_
        simp (config := {implicitDefEqProofs := false, maxSteps := 4000000}) (disch := omega) only [push_cast, c3, Nat.reduceAdd, Nat.reduceSub, Nat.reduceMul, Nat.reduceBEq, Int.reduceToNat, Int.reduceNeg, Int.reduceLE, Int.reduceLT, Int.reduceBEq, Int.reduceBNe, Int.reduceEq, Bool.not_true, Bool.not_false, eq_self, reduceCtorEq]
      | true =>
        refine callW_eq _ _ (rn_ok false false false s w hb (by omega) hv ⟨hs, hwb⟩) ?_
        simp (config := {implicitDefEqProofs := false, maxSteps := 4000000}) (disch := omega) only [push_cast, c3, Nat.reduceAdd, Nat.reduceSub, Nat.reduceMul, Nat.reduceBEq, Int.reduceToNat, Int.reduceNeg, Int.reduceLE, Int.reduceLT, Int.reduceBEq, Int.reduceBNe, Int.reduceEq, Bool.not_true, Bool.not_false, eq_self, reduceCtorEq]
        refine callW_rel (re_k false false s hb hv hs) ?_
        rintro R O' ⟨nz, rfl, rfl⟩
        simp (config := {implicitDefEqProofs := false, maxSteps := 4000000}) (disch := omega) only [push_cast, c3, Nat.reduceAdd, Nat.reduceSub, Nat.reduceMul, Nat.reduceBEq, Int.reduceToNat, Int.reduceNeg, Int.reduceLE, Int.reduceLT, Int.reduceBEq, Int.reduceBNe, Int.reduceEq, Bool.not_true, Bool.not_false, eq_self, reduceCtorEq]
        refine callW_eq _ _ (f8 N O false false hb.1.1 hb.1.2 hb.2.1 hb.2.2) ?_
        simp (config := {implicitDefEqProofs := false, maxSteps := 4000000}) (disch := omega) only [push_cast, c3, Nat.reduceAdd, Nat.reduceSub, Nat.reduceMul, Nat.reduceBEq, Int.reduceToNat, Int.reduceNeg, Int.reduceLE, Int.reduceLT, Int.reduceBEq, Int.reduceBNe, Int.reduceEq, Bool.not_true, Bool.not_false, eq_self, reduceCtorEq]
        refine callW_eq _ _ (f9 N O false false hb.1.1 hb.1.2 hb.2.1 hb.2.2) ?_
        simp (config := {implicitDefEqProofs := false, maxSteps := 4000000}) (disch := omega) only [push_cast, c3, Nat.reduceAdd, Nat.reduceSub, Nat.reduceMul, Nat.reduceBEq, Int.reduceToNat, Int.reduceNeg, Int.reduceLE, Int.reduceLT, Int.reduceBEq, Int.reduceBNe, Int.reduceEq, Bool.not_true, Bool.not_false, eq_self, reduceCtorEq]
        refine callW_eq _ _ (f9 N O false false hb.1.1 hb.1.2 hb.2.1 hb.2.2) ?_
        simp (config := {implicitDefEqProofs := false, maxSteps := 4000000}) (disch := omega) only [push_cast, c3, Nat.reduceAdd, Nat.reduceSub, Nat.reduceMul, Nat.reduceBEq, Int.reduceToNat, Int.reduceNeg, Int.reduceLE, Int.reduceLT, Int.reduceBEq, Int.reduceBNe, Int.reduceEq, Bool.not_true, Bool.not_false, eq_self, reduceCtorEq]
        refine ⟨fun h => (by rw [hv] at h; cases h), fun _ => ?_⟩
        refine callW_eq _ _ (f10 N O false false s) ?_
        simp (config := {implicitDefEqProofs := false, maxSteps := 4000000}) (disch := omega) only [push_cast, c3, Nat.reduceAdd, Nat.reduceSub, Nat.reduceMul, Nat.reduceBEq, Int.reduceToNat, Int.reduceNeg, Int.reduceLE, Int.reduceLT, Int.reduceBEq, Int.reduceBNe, Int.reduceEq, Bool.not_true, Bool.not_false, eq_self, reduceCtorEq]
        refine ⟨fun h => absurd hs h, fun _ => ?_⟩
        refine callW_rel (f12 N O false false s _ hV hs) ?_
        rintro R O' ⟨nz2, rfl, rfl⟩
        simp (config := {implicitDefEqProofs := false, maxSteps := 4000000}) (disch := omega) only [push_cast, c3, Nat.reduceAdd, Nat.reduceSub, Nat.reduceMul, Nat.reduceBEq, Int.reduceToNat, Int.reduceNeg, Int.reduceLE, Int.reduceLT, Int.reduceBEq, Int.reduceBNe, Int.reduceEq, Bool.not_true, Bool.not_false, eq_self, reduceCtorEq]
        refine callW_eq _ _ (f11 _ _ _ _ (by have := fromTo_len N.length fun t => decide (t ∈ (finN N (N.getD 0 []).length s).1); unfold reachL; omega)) ?_
        simp (config := {implicitDefEqProofs := false, maxSteps := 4000000}) (disch := omega) only [push_cast, c3, Nat.reduceAdd, Nat.reduceSub, Nat.reduceMul, Nat.reduceBEq, Int.reduceToNat, Int.reduceNeg, Int.reduceLE, Int.reduceLT, Int.reduceBEq, Int.reduceBNe, Int.reduceEq, Bool.not_true, Bool.not_false, eq_self, reduceCtorEq]
        refine callW_eq _ _ (f14 N O false false (by omega)) ?_
        simp (config := {implicitDefEqProofs := false, maxSteps := 4000000}) (disch := omega) only [push_cast, c3, Nat.reduceAdd, Nat.reduceSub, Nat.reduceMul, Nat.reduceBEq, Int.reduceToNat, Int.reduceNeg, Int.reduceLE, Int.reduceLT, Int.reduceBEq, Int.reduceBNe, Int.reduceEq, Bool.not_true, Bool.not_false, eq_self, reduceCtorEq]
        refine callW_eq _ _ (f13 (N.getD 0 []).length w false (by omega)) ?_
        simp (config := {implicitDefEqProofs := false, maxSteps := 4000000}) (disch := omega) only [push_cast, c3, Nat.reduceAdd, Nat.reduceSub, Nat.reduceMul, Nat.reduceBEq, Int.reduceToNat, Int.reduceNeg, Int.reduceLE, Int.reduceLT, Int.reduceBEq, Int.reduceBNe, Int.reduceEq, Bool.not_true, Bool.not_false, eq_self, reduceCtorEq]
        refine ⟨fun h => (by rw [hwb] at h; cases h), fun _ => ?_⟩
        refine callW_rel (f15 N O false false false s w _ hV hs (wordB_iff.1 hwb).2 (by omega)) ?_
        rintro R O' ⟨nz3, rfl, rfl⟩
        simp (config := {implicitDefEqProofs := false, maxSteps := 4000000}) (disch := omega) only [push_cast, c3, Nat.reduceAdd, Nat.reduceSub, Nat.reduceMul, Nat.reduceBEq, Int.reduceToNat, Int.reduceNeg, Int.reduceLE, Int.reduceLT, Int.reduceBEq, Int.reduceBNe, Int.reduceEq, Bool.not_true, Bool.not_false, eq_self, reduceCtorEq]
        refine callW_eq _ _ (f11 _ _ _ _ (by rw [outsG_len]; omega)) ?_
        simp (config := {implicitDefEqProofs := false, maxSteps := 4000000}) (disch := omega) only [push_cast, c3, Nat.reduceAdd, Nat.reduceSub, Nat.reduceMul, Nat.reduceBEq, Int.reduceToNat, Int.reduceNeg, Int.reduceLE, Int.reduceLT, Int.reduceBEq, Int.reduceBNe, Int.reduceEq, Bool.not_true, Bool.not_false, eq_self, reduceCtorEq]
        refine callW_eq _ _ (f5) ?_
        simp (config := {implicitDefEqProofs := false, maxSteps := 4000000}) (disch := omega) only [push_cast, c3, Nat.reduceAdd, Nat.reduceSub, Nat.reduceMul, Nat.reduceBEq, Int.reduceToNat, Int.reduceNeg, Int.reduceLE, Int.reduceLT, Int.reduceBEq, Int.reduceBNe, Int.reduceEq, Bool.not_true, Bool.not_false, eq_self, reduceCtorEq]
    · refine callW_eq _ _ (rn_wd false false false s w hb (by omega) hv (fun h => hs h.1)) ?_
      simp (config := {implicitDefEqProofs := false, maxSteps := 4000000}) (disch := omega) only [push_cast, c3, Nat.reduceAdd, Nat.reduceSub, Nat.reduceMul, Nat.reduceBEq, Int.reduceToNat, Int.reduceNeg, Int.reduceLE, Int.reduceLT, Int.reduceBEq, Int.reduceBNe, Int.reduceEq, Bool.not_true, Bool.not_false, eq_self, reduceCtorEq]
      refine callW_rel (re_o false false s hb hv hs) ?_
      rintro R O' ⟨nz, rfl, rfl⟩
      simp (config := {implicitDefEqProofs := false, maxSteps := 4000000}) (disch := omega) only [push_cast, c3, Nat.reduceAdd, Nat.reduceSub, Nat.reduceMul, Nat.reduceBEq, Int.reduceToNat, Int.reduceNeg, Int.reduceLE, Int.reduceLT, Int.reduceBEq, Int.reduceBNe, Int.reduceEq, Bool.not_true, Bool.not_false, eq_self, reduceCtorEq]
      refine callW_eq _ _ (f8 N O false false hb.1.1 hb.1.2 hb.2.1 hb.2.2) ?_
      simp (config := {implicitDefEqProofs := false, maxSteps := 4000000}) (disch := omega) only [push_cast, c3, Nat.reduceAdd, Nat.reduceSub, Nat.reduceMul, Nat.reduceBEq, Int.reduceToNat, Int.reduceNeg, Int.reduceLE, Int.reduceLT, Int.reduceBEq, Int.reduceBNe, Int.reduceEq, Bool.not_true, Bool.not_false, eq_self, reduceCtorEq]
      refine callW_eq _ _ (f9 N O false false hb.1.1 hb.1.2 hb.2.1 hb.2.2) ?_
      simp (config := {implicitDefEqProofs := false, maxSteps := 4000000}) (disch := omega) only [push_cast, c3, Nat.reduceAdd, Nat.reduceSub, Nat.reduceMul, Nat.reduceBEq, Int.reduceToNat, Int.reduceNeg, Int.reduceLE, Int.reduceLT, Int.reduceBEq, Int.reduceBNe, Int.reduceEq, Bool.not_true, Bool.not_false, eq_self, reduceCtorEq]
      refine callW_eq _ _ (f9 N O false false hb.1.1 hb.1.2 hb.2.1 hb.2.2) ?_
      simp (config := {implicitDefEqProofs := false, maxSteps := 4000000}) (disch := omega) only [push_cast, c3, Nat.reduceAdd, Nat.reduceSub, Nat.reduceMul, Nat.reduceBEq, Int.reduceToNat, Int.reduceNeg, Int.reduceLE, Int.reduceLT, Int.reduceBEq, Int.reduceBNe, Int.reduceEq, Bool.not_true, Bool.not_false, eq_self, reduceCtorEq]
      refine ⟨fun h => (by rw [hv] at h; cases h), fun _ => ?_⟩
      refine callW_eq _ _ (f10 N O false false s) ?_
      simp (config := {implicitDefEqProofs := false, maxSteps := 4000000}) (disch := omega) only [push_cast, c3, Nat.reduceAdd, Nat.reduceSub, Nat.reduceMul, Nat.reduceBEq, Int.reduceToNat, Int.reduceNeg, Int.reduceLE, Int.reduceLT, Int.reduceBEq, Int.reduceBNe, Int.reduceEq, Bool.not_true, Bool.not_false, eq_self, reduceCtorEq]
      refine ⟨fun _ => ?_, fun h => absurd h hs⟩
      refine ⟨fun _ => ?_, fun h => h rfl⟩
      refine callW_eq _ _ (f5) ?_
      simp (config := {implicitDefEqProofs := false, maxSteps := 4000000}) (disch := omega) only [push_cast, c3, Nat.reduceAdd, Nat.reduceSub, Nat.reduceMul, Nat.reduceBEq, Int.reduceToNat, Int.reduceNeg, Int.reduceLE, Int.reduceLT, Int.reduceBEq, Int.reduceBNe, Int.reduceEq, Bool.not_true, Bool.not_false, eq_self, reduceCtorEq]
theorem lawMealyForms (N O : List (List Int)) (s : Int) (w : List Int) (hl : N.length ≤ 4611686018427387904) (_ : ∀ r ∈ N, r.length ≤ 4611686018427387904) (ho : O.length ≤ 4611686018427387904) (_ : ∀ r ∈ O, r.length ≤ 4611686018427387904) (hw : w.length ≤ 17592186044416) :
    ACall Tryz.prog 3 [.agg [.pay (.rows (N)) (false), .pay (.rows (O)) (false)], .int .i64 s, .pay (.ints .i64 w) false] (fun r objs => r = .bool true ∧ objs = []) := f3 N O s w hl ho hw
end Go.AM
end

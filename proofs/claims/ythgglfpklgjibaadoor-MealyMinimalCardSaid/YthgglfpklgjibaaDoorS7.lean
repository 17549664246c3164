/-
  Contracts of Parse on a valid machine's text and of the chapter's examples; conditions in each statement.
-/
import Derived.Test.YthgglfpklgjibaaDoorS6
import Derived.Test.YthgglfpklgjibaaDoorF5
import Derived.Test.YthgglfpklgjibaaDoorS5
import Derived.Test.YthgglfpklgjibaaDoorS3
import Derived.Test.YthgglfpklgjibaaDoorS2
set_option linter.unusedVariables false
set_option linter.unusedSimpArgs false
set_option linter.unusedSectionVars false

/-! text Ud13 -/
section
namespace Go.AM
open Go Go.Proofs
/- mizmaze/mealy.Parse -/
def c19 : VCfg := ⟨⟨[], [], [7, 8], [0, 2, 3, 4, 6, 7, 8, 10, 11, 12, 14, 15, 16, 17, 18, 19, 27, 30, 31, 32, 33, 37, 38, 39, 40, 64, 99]⟩, [(18, (.op 0 .strict (.op 2 .strict (.op 5 .strict (.op 7 .strict (.alt (.op 1 .eff (.alt (.op 3 .eff (.alt (.op 4 .eff (.alt (.op 6 .eff (.op 10 .strict (.op 8 .eff (.op 9 .eff (.op 11 .eff (.op 12 .loose (.op 13 .eff .nil))))))) (.op 8 .eff (.op 6 .eff (.op 10 .strict (.op 9 .eff (.op 11 .eff (.op 12 .loose (.op 13 .eff .nil))))))))) (.alt (.op 6 .eff (.alt (.op 4 .eff (.op 10 .strict (.op 8 .eff (.op 9 .eff (.op 11 .eff (.op 12 .loose (.op 13 .eff .nil))))))) (.op 8 .eff (.op 4 .eff (.op 10 .strict (.op 9 .eff (.op 11 .eff (.op 12 .loose (.op 13 .eff .nil))))))))) (.op 8 .eff (.alt (.op 4 .eff (.op 6 .eff (.op 10 .strict (.op 9 .eff (.op 11 .eff (.op 12 .loose (.op 13 .eff .nil))))))) (.op 6 .eff (.op 4 .eff (.op 10 .strict (.op 9 .eff (.op 11 .eff (.op 12 .loose (.op 13 .eff .nil)))))))))))) (.alt (.op 6 .eff (.alt (.op 3 .eff (.alt (.op 4 .eff (.op 10 .strict (.op 8 .eff (.op 9 .eff (.op 11 .eff (.op 12 .loose (.op 13 .eff .nil))))))) (.op 8 .eff (.op 4 .eff (.op 10 .strict (.op 9 .eff (.op 11 .eff (.op 12 .loose (.op 13 .eff .nil))))))))) (.op 8 .eff (.op 3 .eff (.op 4 .eff (.op 10 .strict (.op 9 .eff (.op 11 .eff (.op 12 .loose (.op 13 .eff .nil)))))))))) (.op 8 .eff (.alt (.op 3 .eff (.alt (.op 4 .eff (.op 6 .eff (.op 10 .strict (.op 9 .eff (.op 11 .eff (.op 12 .loose (.op 13 .eff .nil))))))) (.op 6 .eff (.op 4 .eff (.op 10 .strict (.op 9 .eff (.op 11 .eff (.op 12 .loose (.op 13 .eff .nil))))))))) (.op 6 .eff (.op 3 .eff (.op 4 .eff (.op 10 .strict (.op 9 .eff (.op 11 .eff (.op 12 .loose (.op 13 .eff .nil))))))))))))) (.alt (.op 3 .eff (.alt (.op 1 .eff (.alt (.op 4 .eff (.alt (.op 6 .eff (.op 10 .strict (.op 8 .eff (.op 9 .eff (.op 11 .eff (.op 12 .loose (.op 13 .eff .nil))))))) (.op 8 .eff (.op 6 .eff (.op 10 .strict (.op 9 .eff (.op 11 .eff (.op 12 .loose (.op 13 .eff .nil))))))))) (.alt (.op 6 .eff (.alt (.op 4 .eff (.op 10 .strict (.op 8 .eff (.op 9 .eff (.op 11 .eff (.op 12 .loose (.op 13 .eff .nil))))))) (.op 8 .eff (.op 4 .eff (.op 10 .strict (.op 9 .eff (.op 11 .eff (.op 12 .loose (.op 13 .eff .nil))))))))) (.op 8 .eff (.alt (.op 4 .eff (.op 6 .eff (.op 10 .strict (.op 9 .eff (.op 11 .eff (.op 12 .loose (.op 13 .eff .nil))))))) (.op 6 .eff (.op 4 .eff (.op 10 .strict (.op 9 .eff (.op 11 .eff (.op 12 .loose (.op 13 .eff .nil)))))))))))) (.alt (.op 6 .eff (.alt (.op 1 .eff (.alt (.op 4 .eff (.op 10 .strict (.op 8 .eff (.op 9 .eff (.op 11 .eff (.op 12 .loose (.op 13 .eff .nil))))))) (.op 8 .eff (.op 4 .eff (.op 10 .strict (.op 9 .eff (.op 11 .eff (.op 12 .loose (.op 13 .eff .nil))))))))) (.op 8 .eff (.op 1 .eff (.op 4 .eff (.op 10 .strict (.op 9 .eff (.op 11 .eff (.op 12 .loose (.op 13 .eff .nil)))))))))) (.op 8 .eff (.alt (.op 1 .eff (.alt (.op 4 .eff (.op 6 .eff (.op 10 .strict (.op 9 .eff (.op 11 .eff (.op 12 .loose (.op 13 .eff .nil))))))) (.op 6 .eff (.op 4 .eff (.op 10 .strict (.op 9 .eff (.op 11 .eff (.op 12 .loose (.op 13 .eff .nil))))))))) (.op 6 .eff (.op 1 .eff (.op 4 .eff (.op 10 .strict (.op 9 .eff (.op 11 .eff (.op 12 .loose (.op 13 .eff .nil))))))))))))) (.alt (.op 6 .eff (.alt (.op 1 .eff (.alt (.op 3 .eff (.alt (.op 4 .eff (.op 10 .strict (.op 8 .eff (.op 9 .eff (.op 11 .eff (.op 12 .loose (.op 13 .eff .nil))))))) (.op 8 .eff (.op 4 .eff (.op 10 .strict (.op 9 .eff (.op 11 .eff (.op 12 .loose (.op 13 .eff .nil))))))))) (.op 8 .eff (.op 3 .eff (.op 4 .eff (.op 10 .strict (.op 9 .eff (.op 11 .eff (.op 12 .loose (.op 13 .eff .nil)))))))))) (.alt (.op 3 .eff (.alt (.op 1 .eff (.alt (.op 4 .eff (.op 10 .strict (.op 8 .eff (.op 9 .eff (.op 11 .eff (.op 12 .loose (.op 13 .eff .nil))))))) (.op 8 .eff (.op 4 .eff (.op 10 .strict (.op 9 .eff (.op 11 .eff (.op 12 .loose (.op 13 .eff .nil))))))))) (.op 8 .eff (.op 1 .eff (.op 4 .eff (.op 10 .strict (.op 9 .eff (.op 11 .eff (.op 12 .loose (.op 13 .eff .nil)))))))))) (.op 8 .eff (.alt (.op 1 .eff (.op 3 .eff (.op 4 .eff (.op 10 .strict (.op 9 .eff (.op 11 .eff (.op 12 .loose (.op 13 .eff .nil)))))))) (.op 3 .eff (.op 1 .eff (.op 4 .eff (.op 10 .strict (.op 9 .eff (.op 11 .eff (.op 12 .loose (.op 13 .eff .nil))))))))))))) (.op 8 .eff (.alt (.op 1 .eff (.alt (.op 3 .eff (.alt (.op 4 .eff (.op 6 .eff (.op 10 .strict (.op 9 .eff (.op 11 .eff (.op 12 .loose (.op 13 .eff .nil))))))) (.op 6 .eff (.op 4 .eff (.op 10 .strict (.op 9 .eff (.op 11 .eff (.op 12 .loose (.op 13 .eff .nil))))))))) (.op 6 .eff (.op 3 .eff (.op 4 .eff (.op 10 .strict (.op 9 .eff (.op 11 .eff (.op 12 .loose (.op 13 .eff .nil)))))))))) (.alt (.op 3 .eff (.alt (.op 1 .eff (.alt (.op 4 .eff (.op 6 .eff (.op 10 .strict (.op 9 .eff (.op 11 .eff (.op 12 .loose (.op 13 .eff .nil))))))) (.op 6 .eff (.op 4 .eff (.op 10 .strict (.op 9 .eff (.op 11 .eff (.op 12 .loose (.op 13 .eff .nil))))))))) (.op 6 .eff (.op 1 .eff (.op 4 .eff (.op 10 .strict (.op 9 .eff (.op 11 .eff (.op 12 .loose (.op 13 .eff .nil)))))))))) (.op 6 .eff (.alt (.op 1 .eff (.op 3 .eff (.op 4 .eff (.op 10 .strict (.op 9 .eff (.op 11 .eff (.op 12 .loose (.op 13 .eff .nil)))))))) (.op 3 .eff (.op 1 .eff (.op 4 .eff (.op 10 .strict (.op 9 .eff (.op 11 .eff (.op 12 .loose (.op 13 .eff .nil)))))))))))))))))))))], [], []⟩
set_option maxHeartbeats 8000000 in
set_option maxRecDepth 100000 in
theorem f19 (N O : List (List Int)) (k : Nat) (hV : VM N O k) : ACall Tryd.prog 19 [.str (bs (textM N O))] (fun r objs => r = .tup [.agg [.pay (.rows (N)) (true), .pay (.rows (O)) (true)], .int .i64 0] ∧ objs = []) := by
  suffices h : ACall Tryd.prog 19 [.str (bs (textM N O))] (fun r objs => r = .tup [.agg [.own 0, .own 1], .int .i64 0] ∧ objs = [.arr (.rows N) ⟨27, true⟩, .arr (.rows O) ⟨27, true⟩]) by
    refine h.frz ?_
    rintro r objs ⟨rfl, rfl⟩
    exact ⟨[0, 1], _, 2, rfl, rfl, rfl⟩
  have hn := hV.v.n2
  have hn0 := hV.v.n1
  have hk2 := hV.v.k2
  have hol := hV.ol
  have htl := textM_len hV
  have hsp := textM_spaces hV
  have hdt := textM_dots hV
  have hts := textM_split hV
  have hrl := rowsM_len N O
  refine acall_intro (tyP_ok _) c19 2000 [.cell 2 24, .tmp 3] Tryd.func19 rfl (by rfl) rfl (by kernel_rfl) ?_
  unfold Tryd.f19
  simp (config := {implicitDefEqProofs := false, maxSteps := 4000000}) (disch := omega) only [push_cast, c19, Nat.reduceAdd, Nat.reduceSub, Nat.reduceMul, Nat.reduceBEq, Int.reduceToNat, Int.reduceNeg, Int.reduceLE, Int.reduceLT, Int.reduceBEq, Int.reduceBNe, Int.reduceEq, Bool.not_true, Bool.not_false, eq_self, reduceCtorEq]
  refine callW_eq _ _ (f42 (textM N O) 32) ?_
  simp (config := {implicitDefEqProofs := false, maxSteps := 4000000}) (disch := omega) only [push_cast, c19, Nat.reduceAdd, Nat.reduceSub, Nat.reduceMul, Nat.reduceBEq, Int.reduceToNat, Int.reduceNeg, Int.reduceLE, Int.reduceLT, Int.reduceBEq, Int.reduceBNe, Int.reduceEq, Bool.not_true, Bool.not_false, eq_self, reduceCtorEq]
  refine ⟨fun h => by omega, fun _ => ?_⟩
  refine callW_eq _ _ (f42 (textM N O) 46) ?_
  simp (config := {implicitDefEqProofs := false, maxSteps := 4000000}) (disch := omega) only [push_cast, c19, Nat.reduceAdd, Nat.reduceSub, Nat.reduceMul, Nat.reduceBEq, Int.reduceToNat, Int.reduceNeg, Int.reduceLE, Int.reduceLT, Int.reduceBEq, Int.reduceBNe, Int.reduceEq, Bool.not_true, Bool.not_false, eq_self, reduceCtorEq]
  refine ⟨fun h => by omega, fun _ => ?_⟩
  refine callW_eq _ _ (f43 (textM N O) 32 (by omega)) ?_
  rw [hts]
  simp (config := {implicitDefEqProofs := false, maxSteps := 4000000}) (disch := omega) only [push_cast, c19, hrl, Nat.reduceAdd, Nat.reduceSub, Nat.reduceMul, Nat.reduceBEq, Int.reduceToNat, Int.reduceNeg, Int.reduceLE, Int.reduceLT, Int.reduceBEq, Int.reduceBNe, Int.reduceEq, Bool.not_true, Bool.not_false, eq_self, reduceCtorEq]
  refine awp_virt (i := 1) (c := 0) (p := .rows []) 27 rfl rfl rfl ?_
  refine awp_virt (i := 1) (c := 1) (p := .rows []) 27 rfl rfl rfl ?_
  refine awp_upto (tyP_ok _) c19 2000 [0, 2, 3, 4, 30, 31, 32] (N.length) (fun _ => True) (fun i => ⟨102, [(0, .str (bs (textM N O))), (2, .ref 0 0), (3, .int .i64 0), (4, .ref 1 0), (30, .pay (.strs ((rowsM N O).map bs)) false), (31, .int .i64 N.length), (32, .int .i64 i)], [.box [.lit (.slice none 0 0), .lit (.slice none 0 0)], .box [.own 2, .own 3], .arr (.rows (N.take i)) ⟨27, true⟩, .arr (.rows (O.take i)) ⟨27, true⟩]⟩) (by kernel_rfl) ?_ ?_ ?_
  · simp (config := {implicitDefEqProofs := false, maxSteps := 4000000}) (disch := omega) only [push_cast, c19, hrl, Nat.reduceAdd, Nat.reduceSub, Nat.reduceMul, Nat.reduceBEq, Int.reduceToNat, Int.reduceNeg, Int.reduceLE, Int.reduceLT, Int.reduceBEq, Int.reduceBNe, Int.reduceEq, Bool.not_true, Bool.not_false, eq_self, reduceCtorEq]
  · trivial
  intro i hi _
  simp (config := {implicitDefEqProofs := false, maxSteps := 4000000}) (disch := omega) only [push_cast, c19, hrl, Nat.reduceAdd, Nat.reduceSub, Nat.reduceMul, Nat.reduceBEq, Int.reduceToNat, Int.reduceNeg, Int.reduceLE, Int.reduceLT, Int.reduceBEq, Int.reduceBNe, Int.reduceEq, Bool.not_true, Bool.not_false, eq_self, reduceCtorEq]
  refine ⟨fun hlt => ?_, fun hge => ?_⟩
  · obtain ⟨hn1, ho1⟩ := hV.lens hlt
    have hml := rowM_len hV hlt
    have hms := rowM_split hV hlt
    have hel := entL_len (N.getD i []) (O.getD i [])
    have hsuN : N.take (i + 1) = N.take i ++ [N.getD i []] := by rw [List.take_succ_eq_append_getElem hlt]; simp [hlt]
    have hsuO : O.take (i + 1) = O.take i ++ [O.getD i []] := by rw [List.take_succ_eq_append_getElem (by omega)]; simp [show i < O.length by omega]
    rw [rowsM_get hlt]
    refine ⟨hlt, ?_⟩
    refine callW_eq _ _ (f43 _ 46 (by omega)) ?_
    rw [hms]
    simp (config := {implicitDefEqProofs := false, maxSteps := 4000000}) (disch := omega) only [push_cast, c19, hel, hn1, Nat.reduceAdd, Nat.reduceSub, Nat.reduceMul, Nat.reduceBEq, Int.reduceToNat, Int.reduceNeg, Int.reduceLE, Int.reduceLT, Int.reduceBEq, Int.reduceBNe, Int.reduceEq, Bool.not_true, Bool.not_false, eq_self, reduceCtorEq]
    refine awp_upto (tyP_ok _) c19 2000 [0, 2, 3, 4, 7, 8, 30, 31, 32, 37, 38, 39] (k) (fun _ => True) (fun x => ⟨102, [(0, .str (bs (textM N O))), (2, .ref 0 0), (3, .int .i64 0), (4, .ref 1 0), (7, .own 2), (8, .own 3), (30, .pay (.strs ((rowsM N O).map bs)) false), (31, .int .i64 N.length), (32, .int .i64 i), (37, .pay (.strs ((entL (N.getD i []) (O.getD i [])).map bs)) false), (38, .int .i64 k), (39, .int .i64 x)], [.box [.lit (.slice none 0 0), .lit (.slice none 0 0)], .box [.own 4, .own 5], .arr (.ints .i64 ((N.getD i []).take x)) ⟨3, true⟩, .arr (.ints .i64 ((O.getD i []).take x)) ⟨3, true⟩, .arr (.rows (N.take i)) ⟨27, true⟩, .arr (.rows (O.take i)) ⟨27, true⟩]⟩) (by kernel_rfl) ?_ ?_ ?_
    · simp (config := {implicitDefEqProofs := false, maxSteps := 4000000}) (disch := omega) only [push_cast, c19, Nat.reduceAdd, Nat.reduceSub, Nat.reduceMul, Nat.reduceBEq, Int.reduceToNat, Int.reduceNeg, Int.reduceLE, Int.reduceLT, Int.reduceBEq, Int.reduceBNe, Int.reduceEq, Bool.not_true, Bool.not_false, eq_self, reduceCtorEq]
    · trivial
    intro x hx _
    simp (config := {implicitDefEqProofs := false, maxSteps := 4000000}) (disch := omega) only [push_cast, c19, hel, hn1, Nat.reduceAdd, Nat.reduceSub, Nat.reduceMul, Nat.reduceBEq, Int.reduceToNat, Int.reduceNeg, Int.reduceLE, Int.reduceLT, Int.reduceBEq, Int.reduceBNe, Int.reduceEq, Bool.not_true, Bool.not_false, eq_self, reduceCtorEq]
    refine ⟨fun hxk => ?_, fun hxk => ?_⟩
    · obtain ⟨⟨a1, a2⟩, b1, b2⟩ := hV.ent hlt hxk
      have na := numT_ok a1 a2
      have nb := numT_ok b1 b2
      rw [entL_get (by omega)]
      refine ⟨hxk, ?_⟩
      refine callW_eq _ _ (f44 _ _ a1 a2 b1 b2) ?_
      simp (config := {implicitDefEqProofs := false, maxSteps := 4000000}) (disch := omega) only [push_cast, c19, Nat.reduceAdd, Nat.reduceSub, Nat.reduceMul, Nat.reduceBEq, Int.reduceToNat, Int.reduceNeg, Int.reduceLE, Int.reduceLT, Int.reduceBEq, Int.reduceBNe, Int.reduceEq, Bool.not_true, Bool.not_false, eq_self, reduceCtorEq]
      refine callW_eq _ _ (f45 _ na.1.1 na.1.2.1 na.1.2.2.2) ?_
      rw [na.2]
      simp (config := {implicitDefEqProofs := false, maxSteps := 4000000}) (disch := omega) only [push_cast, c19, Nat.reduceAdd, Nat.reduceSub, Nat.reduceMul, Nat.reduceBEq, Int.reduceToNat, Int.reduceNeg, Int.reduceLE, Int.reduceLT, Int.reduceBEq, Int.reduceBNe, Int.reduceEq, Bool.not_true, Bool.not_false, eq_self, reduceCtorEq]
      refine callW_eq _ _ (f45 _ nb.1.1 nb.1.2.1 nb.1.2.2.2) ?_
      rw [nb.2]
      simp (config := {implicitDefEqProofs := false, maxSteps := 4000000}) (disch := omega) only [push_cast, c19, Nat.reduceAdd, Nat.reduceSub, Nat.reduceMul, Nat.reduceBEq, Int.reduceToNat, Int.reduceNeg, Int.reduceLE, Int.reduceLT, Int.reduceBEq, Int.reduceBNe, Int.reduceEq, Bool.not_true, Bool.not_false, eq_self, reduceCtorEq]
      refine ⟨by rw [List.length_take]; omega, by rw [List.length_take]; omega, hxk, take_succI (by omega), take_succI (by omega)⟩
    · rw [List.take_of_length_le (show (N.getD i []).length ≤ x by omega), List.take_of_length_le (show (O.getD i []).length ≤ x by omega)]
      exact ⟨by rw [List.length_take]; omega, by rw [List.length_take]; omega, hlt, hsuN.symm, hsuO.symm⟩
  · rw [List.take_of_length_le (show N.length ≤ i by omega), List.take_of_length_le (show O.length ≤ i by omega)]
    have hsm : ∀ r ∈ N, r.length ≤ 4611686018427387904 := fun r hr => by have := (hV.v.row r hr).1; omega
    have hsm2 : ∀ r ∈ O, r.length ≤ 4611686018427387904 := fun r hr => by have := (hV.orow r hr).1; omega
    have hT := f18 N O true true (by omega) hsm (by omega) hsm2
    refine callW_eq _ _ (hT.mono (Q' := fun r objs => r = .tup [.str (bs (textM N O)), .int .i64 0] ∧ objs = []) ?_) ?_
    · rintro r objs ⟨t, e, rfl, ⟨_, rfl, rfl⟩ | ⟨h, _⟩, rfl⟩
      · exact ⟨rfl, rfl⟩
      · rw [hV.ok] at h; cases h
    simp (config := {implicitDefEqProofs := false, maxSteps := 4000000}) (disch := omega) only [push_cast, c19, Nat.reduceAdd, Nat.reduceSub, Nat.reduceMul, Nat.reduceBEq, Int.reduceToNat, Int.reduceNeg, Int.reduceLE, Int.reduceLT, Int.reduceBEq, Int.reduceBNe, Int.reduceEq, Bool.not_true, Bool.not_false, eq_self, reduceCtorEq]
end Go.AM
end

/-! text Ud14 -/
section
namespace Go.AM
open Go Go.Proofs
def eN : List (List Int) := [[1, 0], [0, 1]]
def eO1 : List (List Int) := [[0, 1], [0, 1]]
def eO2 : List (List Int) := [[0, 1], [0, 0]]
theorem eV1 : VM eN eO1 2 := ⟨⟨by decide, by decide, by decide, by decide, by decide⟩, by decide, by decide⟩
theorem eV2 : VM eN eO2 2 := ⟨⟨by decide, by decide, by decide, by decide, by decide⟩, by decide, by decide⟩
theorem eT1 : textM eN eO1 = [49, 47, 48, 46, 48, 47, 49, 32, 48, 47, 48, 46, 49, 47, 49] := by decide +kernel
theorem eT2 : textM eN eO2 = [49, 47, 48, 46, 48, 47, 49, 32, 48, 47, 48, 46, 49, 47, 48] := by decide +kernel
theorem eC1 : clsT eN eO1 2 = [0, 0] := by decide +kernel
theorem eTell : TellR eN eO2 eN eO2 0 1 2 [1] true := .inl ⟨0, 1, by decide +kernel, by decide, by decide +kernel, by decide +kernel, fun j c' h => absurd h (Nat.not_lt_zero _), by decide +kernel, rfl⟩
theorem awk_Parse : ACall Tryd.prog 19 [.str (bs [49, 47, 48, 46, 48, 47, 49, 32, 48, 47, 48, 46, 49, 47, 49])] (fun r objs => r = .tup [.agg [.pay (.rows (eN)) (true), .pay (.rows (eO1)) (true)], .int .i64 0] ∧ objs = []) := by
  have := f19 eN eO1 2 eV1
  rwa [eT1] at this
theorem eb {k : Nat} {N O : List (List Int)} (h : VM N O k) : (N.length ≤ 4611686018427387904 ∧ ∀ r ∈ N, r.length ≤ 4611686018427387904) ∧ O.length ≤ 4611686018427387904 ∧ ∀ r ∈ O, r.length ≤ 4611686018427387904 := by
  have h1 := h.v.n2
  have h2 := h.v.k2
  have h3 := h.ol
  exact ⟨⟨by omega, fun r hr => by have := (h.v.row r hr).1; omega⟩, by omega, fun r hr => by have := (h.orow r hr).1; omega⟩
theorem awk_Classes (z z' : Bool) : ACall Tryd.prog 25 [.agg [.pay (.rows (eN)) (z), .pay (.rows (eO1)) (z')]] (fun r objs => r = .tup [.pay (.ints .i64 [0, 0]) true, .int .i64 0] ∧ objs = []) := by
  have hb := eb eV1
  refine (f25 eN eO1 z z' hb.1.1 hb.1.2 hb.2.1 hb.2.2).mono ?_
  rintro r objs ⟨c, e, ⟨h, _⟩ | ⟨_, rfl, rfl⟩, rfl, rfl⟩
  · rw [eV1.ok] at h; cases h
  · rw [eV1.k0, eC1]; exact ⟨rfl, rfl⟩
theorem awk_Apart (z z' : Bool) : ACall Tryd.prog 13 [.agg [.pay (.rows (eN)) (z), .pay (.rows (eO2)) (z')], .int .i64 0, .int .i64 1] (fun r objs => ∃ nz, r = .tup [.pay (.ints .i64 [1]) nz, .int .i64 0] ∧ objs = []) := by
  have hb := eb eV2
  refine (f13 eN eO2 z z' 0 1 hb.1.1 hb.1.2 hb.2.1 hb.2.2).mono ?_
  rintro r objs ⟨w, e, nz, ⟨h, _⟩ | ⟨_, h, _⟩ | ⟨_, _, ⟨h, rfl⟩ | ⟨h, _⟩⟩, rfl, rfl⟩
  · rw [eV2.ok] at h; cases h
  · exact absurd (by decide) h
  · rw [eV2.k0] at h
    rw [(h.uniq eTell).1]; exact ⟨nz, rfl, rfl⟩
  · rw [eV2.k0] at h
    cases (h.uniq eTell).2
theorem awk_Text (z z' : Bool) : ACall Tryd.prog 18 [.agg [.pay (.rows (eN)) (z), .pay (.rows (eO2)) (z')]] (fun r objs => r = .tup [.str (bs [49, 47, 48, 46, 48, 47, 49, 32, 48, 47, 48, 46, 49, 47, 48]), .int .i64 0] ∧ objs = []) := by
  have hb := eb eV2
  refine (f18 eN eO2 z z' hb.1.1 hb.1.2 hb.2.1 hb.2.2).mono ?_
  rintro r objs ⟨t, e, rfl, ⟨_, rfl, rfl⟩ | ⟨h, _⟩, rfl⟩
  · rw [eT2]; exact ⟨rfl, rfl⟩
  · rw [eV2.ok] at h; cases h
/- mizmaze/mizmazelaw07.awake -/
def c12 : VCfg := ⟨⟨[], [], [], [0, 1, 2, 3, 4, 5, 6, 7, 8]⟩, [], [], []⟩
set_option maxHeartbeats 4000000 in
set_option maxRecDepth 100000 in
theorem f12 : ACall Tryd.prog 12 [] (fun r objs => r = .bool true ∧ objs = []) := by
  refine acall_intro (tyP_ok _) c12 2000 [.tmp 0] Tryd.func12 rfl (by rfl) rfl (by kernel_rfl) ?_
  unfold Tryd.f12
  simp (config := {implicitDefEqProofs := false, maxSteps := 4000000}) (disch := omega) only [push_cast, c12, Nat.reduceAdd, Nat.reduceSub, Nat.reduceMul, Nat.reduceBEq, Int.reduceToNat, Int.reduceNeg, Int.reduceLE, Int.reduceLT, Int.reduceBEq, Int.reduceBNe, Int.reduceEq, Bool.not_true, Bool.not_false, eq_self, reduceCtorEq]
  refine callW_eq _ _ (awk_Parse) ?_
  simp (config := {implicitDefEqProofs := false, maxSteps := 4000000}) (disch := omega) only [push_cast, c12, Nat.reduceAdd, Nat.reduceSub, Nat.reduceMul, Nat.reduceBEq, Int.reduceToNat, Int.reduceNeg, Int.reduceLE, Int.reduceLT, Int.reduceBEq, Int.reduceBNe, Int.reduceEq, Bool.not_true, Bool.not_false, eq_self, reduceCtorEq]
  refine callW_eq _ _ (awk_Classes true true) ?_
  simp (config := {implicitDefEqProofs := false, maxSteps := 4000000}) (disch := omega) only [push_cast, c12, Nat.reduceAdd, Nat.reduceSub, Nat.reduceMul, Nat.reduceBEq, Int.reduceToNat, Int.reduceNeg, Int.reduceLE, Int.reduceLT, Int.reduceBEq, Int.reduceBNe, Int.reduceEq, Bool.not_true, Bool.not_false, eq_self, reduceCtorEq]
  refine callW_eq _ _ (f34) ?_
  simp (config := {implicitDefEqProofs := false, maxSteps := 4000000}) (disch := omega) only [push_cast, c12, Nat.reduceAdd, Nat.reduceSub, Nat.reduceMul, Nat.reduceBEq, Int.reduceToNat, Int.reduceNeg, Int.reduceLE, Int.reduceLT, Int.reduceBEq, Int.reduceBNe, Int.reduceEq, Bool.not_true, Bool.not_false, eq_self, reduceCtorEq]
  refine callW_rel (awk_Apart false false) ?_
  rintro R O ⟨nz, rfl, rfl⟩
  simp (config := {implicitDefEqProofs := false, maxSteps := 4000000}) (disch := omega) only [push_cast, c12, Nat.reduceAdd, Nat.reduceSub, Nat.reduceMul, Nat.reduceBEq, Int.reduceToNat, Int.reduceNeg, Int.reduceLE, Int.reduceLT, Int.reduceBEq, Int.reduceBNe, Int.reduceEq, Bool.not_true, Bool.not_false, eq_self, reduceCtorEq]
  refine callW_eq _ _ (f34) ?_
  simp (config := {implicitDefEqProofs := false, maxSteps := 4000000}) (disch := omega) only [push_cast, c12, Nat.reduceAdd, Nat.reduceSub, Nat.reduceMul, Nat.reduceBEq, Int.reduceToNat, Int.reduceNeg, Int.reduceLE, Int.reduceLT, Int.reduceBEq, Int.reduceBNe, Int.reduceEq, Bool.not_true, Bool.not_false, eq_self, reduceCtorEq]
  refine callW_eq _ _ (awk_Text false false) ?_
  simp (config := {implicitDefEqProofs := false, maxSteps := 4000000}) (disch := omega) only [push_cast, c12, Nat.reduceAdd, Nat.reduceSub, Nat.reduceMul, Nat.reduceBEq, Int.reduceToNat, Int.reduceNeg, Int.reduceLE, Int.reduceLT, Int.reduceBEq, Int.reduceBNe, Int.reduceEq, Bool.not_true, Bool.not_false, eq_self, reduceCtorEq]
  refine callW_eq _ _ (f17 [0, 0] [0, 0] _ _ (by decide)) ?_
  simp (config := {implicitDefEqProofs := false, maxSteps := 4000000}) (disch := omega) only [push_cast, c12, Nat.reduceAdd, Nat.reduceSub, Nat.reduceMul, Nat.reduceBEq, Int.reduceToNat, Int.reduceNeg, Int.reduceLE, Int.reduceLT, Int.reduceBEq, Int.reduceBNe, Int.reduceEq, Bool.not_true, Bool.not_false, eq_self, reduceCtorEq]
  refine callW_eq _ _ (f17 [1] [1] _ _ (by decide)) ?_
  simp (config := {implicitDefEqProofs := false, maxSteps := 4000000}) (disch := omega) only [push_cast, c12, Nat.reduceAdd, Nat.reduceSub, Nat.reduceMul, Nat.reduceBEq, Int.reduceToNat, Int.reduceNeg, Int.reduceLE, Int.reduceLT, Int.reduceBEq, Int.reduceBNe, Int.reduceEq, Bool.not_true, Bool.not_false, eq_self, reduceCtorEq]
  done
end Go.AM
end

/-
  Contracts of Parse on a valid machine's text and of the chapter's examples; conditions in each statement.
-/
import Derived.Test.YthgglfpklgjibaaGreatDoorS4
import Derived.Test.YthgglfpklgjibaaGreatDoorF5
import Derived.Test.YthgglfpklgjibaaGreatDoorS3
import Derived.Test.YthgglfpklgjibaaGreatDoorS2
set_option linter.unusedVariables false
set_option linter.unusedSimpArgs false
set_option linter.unusedSectionVars false

/-! text Ue13 -/
section
namespace Go.AM
open Go Go.Proofs
/- mizmaze/mealy.Parse -/
def c17 : VCfg := ⟨⟨[], [], [7, 8], [0, 2, 3, 4, 6, 7, 8, 10, 11, 12, 14, 15, 16, 17, 18, 19, 27, 30, 31, 32, 33, 37, 38, 39, 40, 64, 99]⟩, [(18, (.op 0 .strict (.op 2 .strict (.op 5 .strict (.op 7 .strict (.alt (.op 1 .eff (.alt (.op 3 .eff (.alt (.op 4 .eff (.alt (.op 6 .eff (.op 10 .strict (.op 8 .eff (.op 9 .eff (.op 11 .eff (.op 12 .loose (.op 13 .eff .nil))))))) (.op 8 .eff (.op 6 .eff (.op 10 .strict (.op 9 .eff (.op 11 .eff (.op 12 .loose (.op 13 .eff .nil))))))))) (.alt (.op 6 .eff (.alt (.op 4 .eff (.op 10 .strict (.op 8 .eff (.op 9 .eff (.op 11 .eff (.op 12 .loose (.op 13 .eff .nil))))))) (.op 8 .eff (.op 4 .eff (.op 10 .strict (.op 9 .eff (.op 11 .eff (.op 12 .loose (.op 13 .eff .nil))))))))) (.op 8 .eff (.alt (.op 4 .eff (.op 6 .eff (.op 10 .strict (.op 9 .eff (.op 11 .eff (.op 12 .loose (.op 13 .eff .nil))))))) (.op 6 .eff (.op 4 .eff (.op 10 .strict (.op 9 .eff (.op 11 .eff (.op 12 .loose (.op 13 .eff .nil)))))))))))) (.alt (.op 6 .eff (.alt (.op 3 .eff (.alt (.op 4 .eff (.op 10 .strict (.op 8 .eff (.op 9 .eff (.op 11 .eff (.op 12 .loose (.op 13 .eff .nil))))))) (.op 8 .eff (.op 4 .eff (.op 10 .strict (.op 9 .eff (.op 11 .eff (.op 12 .loose (.op 13 .eff .nil))))))))) (.op 8 .eff (.op 3 .eff (.op 4 .eff (.op 10 .strict (.op 9 .eff (.op 11 .eff (.op 12 .loose (.op 13 .eff .nil)))))))))) (.op 8 .eff (.alt (.op 3 .eff (.alt (.op 4 .eff (.op 6 .eff (.op 10 .strict (.op 9 .eff (.op 11 .eff (.op 12 .loose (.op 13 .eff .nil))))))) (.op 6 .eff (.op 4 .eff (.op 10 .strict (.op 9 .eff (.op 11 .eff (.op 12 .loose (.op 13 .eff .nil))))))))) (.op 6 .eff (.op 3 .eff (.op 4 .eff (.op 10 .strict (.op 9 .eff (.op 11 .eff (.op 12 .loose (.op 13 .eff .nil))))))))))))) (.alt (.op 3 .eff (.alt (.op 1 .eff (.alt (.op 4 .eff (.alt (.op 6 .eff (.op 10 .strict (.op 8 .eff (.op 9 .eff (.op 11 .eff (.op 12 .loose (.op 13 .eff .nil))))))) (.op 8 .eff (.op 6 .eff (.op 10 .strict (.op 9 .eff (.op 11 .eff (.op 12 .loose (.op 13 .eff .nil))))))))) (.alt (.op 6 .eff (.alt (.op 4 .eff (.op 10 .strict (.op 8 .eff (.op 9 .eff (.op 11 .eff (.op 12 .loose (.op 13 .eff .nil))))))) (.op 8 .eff (.op 4 .eff (.op 10 .strict (.op 9 .eff (.op 11 .eff (.op 12 .loose (.op 13 .eff .nil))))))))) (.op 8 .eff (.alt (.op 4 .eff (.op 6 .eff (.op 10 .strict (.op 9 .eff (.op 11 .eff (.op 12 .loose (.op 13 .eff .nil))))))) (.op 6 .eff (.op 4 .eff (.op 10 .strict (.op 9 .eff (.op 11 .eff (.op 12 .loose (.op 13 .eff .nil)))))))))))) (.alt (.op 6 .eff (.alt (.op 1 .eff (.alt (.op 4 .eff (.op 10 .strict (.op 8 .eff (.op 9 .eff (.op 11 .eff (.op 12 .loose (.op 13 .eff .nil))))))) (.op 8 .eff (.op 4 .eff (.op 10 .strict (.op 9 .eff (.op 11 .eff (.op 12 .loose (.op 13 .eff .nil))))))))) (.op 8 .eff (.op 1 .eff (.op 4 .eff (.op 10 .strict (.op 9 .eff (.op 11 .eff (.op 12 .loose (.op 13 .eff .nil)))))))))) (.op 8 .eff (.alt (.op 1 .eff (.alt (.op 4 .eff (.op 6 .eff (.op 10 .strict (.op 9 .eff (.op 11 .eff (.op 12 .loose (.op 13 .eff .nil))))))) (.op 6 .eff (.op 4 .eff (.op 10 .strict (.op 9 .eff (.op 11 .eff (.op 12 .loose (.op 13 .eff .nil))))))))) (.op 6 .eff (.op 1 .eff (.op 4 .eff (.op 10 .strict (.op 9 .eff (.op 11 .eff (.op 12 .loose (.op 13 .eff .nil))))))))))))) (.alt (.op 6 .eff (.alt (.op 1 .eff (.alt (.op 3 .eff (.alt (.op 4 .eff (.op 10 .strict (.op 8 .eff (.op 9 .eff (.op 11 .eff (.op 12 .loose (.op 13 .eff .nil))))))) (.op 8 .eff (.op 4 .eff (.op 10 .strict (.op 9 .eff (.op 11 .eff (.op 12 .loose (.op 13 .eff .nil))))))))) (.op 8 .eff (.op 3 .eff (.op 4 .eff (.op 10 .strict (.op 9 .eff (.op 11 .eff (.op 12 .loose (.op 13 .eff .nil)))))))))) (.alt (.op 3 .eff (.alt (.op 1 .eff (.alt (.op 4 .eff (.op 10 .strict (.op 8 .eff (.op 9 .eff (.op 11 .eff (.op 12 .loose (.op 13 .eff .nil))))))) (.op 8 .eff (.op 4 .eff (.op 10 .strict (.op 9 .eff (.op 11 .eff (.op 12 .loose (.op 13 .eff .nil))))))))) (.op 8 .eff (.op 1 .eff (.op 4 .eff (.op 10 .strict (.op 9 .eff (.op 11 .eff (.op 12 .loose (.op 13 .eff .nil)))))))))) (.op 8 .eff (.alt (.op 1 .eff (.op 3 .eff (.op 4 .eff (.op 10 .strict (.op 9 .eff (.op 11 .eff (.op 12 .loose (.op 13 .eff .nil)))))))) (.op 3 .eff (.op 1 .eff (.op 4 .eff (.op 10 .strict (.op 9 .eff (.op 11 .eff (.op 12 .loose (.op 13 .eff .nil))))))))))))) (.op 8 .eff (.alt (.op 1 .eff (.alt (.op 3 .eff (.alt (.op 4 .eff (.op 6 .eff (.op 10 .strict (.op 9 .eff (.op 11 .eff (.op 12 .loose (.op 13 .eff .nil))))))) (.op 6 .eff (.op 4 .eff (.op 10 .strict (.op 9 .eff (.op 11 .eff (.op 12 .loose (.op 13 .eff .nil))))))))) (.op 6 .eff (.op 3 .eff (.op 4 .eff (.op 10 .strict (.op 9 .eff (.op 11 .eff (.op 12 .loose (.op 13 .eff .nil)))))))))) (.alt (.op 3 .eff (.alt (.op 1 .eff (.alt (.op 4 .eff (.op 6 .eff (.op 10 .strict (.op 9 .eff (.op 11 .eff (.op 12 .loose (.op 13 .eff .nil))))))) (.op 6 .eff (.op 4 .eff (.op 10 .strict (.op 9 .eff (.op 11 .eff (.op 12 .loose (.op 13 .eff .nil))))))))) (.op 6 .eff (.op 1 .eff (.op 4 .eff (.op 10 .strict (.op 9 .eff (.op 11 .eff (.op 12 .loose (.op 13 .eff .nil)))))))))) (.op 6 .eff (.alt (.op 1 .eff (.op 3 .eff (.op 4 .eff (.op 10 .strict (.op 9 .eff (.op 11 .eff (.op 12 .loose (.op 13 .eff .nil)))))))) (.op 3 .eff (.op 1 .eff (.op 4 .eff (.op 10 .strict (.op 9 .eff (.op 11 .eff (.op 12 .loose (.op 13 .eff .nil)))))))))))))))))))))], [], []⟩
set_option maxHeartbeats 8000000 in
set_option maxRecDepth 100000 in
theorem f17 (N O : List (List Int)) (k : Nat) (hV : VM N O k) : ACall Tryz.prog 17 [.str (bs (textM N O))] (fun r objs => r = .tup [.agg [.pay (.rows (N)) (true), .pay (.rows (O)) (true)], .int .i64 0] ∧ objs = []) := by
  suffices h : ACall Tryz.prog 17 [.str (bs (textM N O))] (fun r objs => r = .tup [.agg [.own 0, .own 1], .int .i64 0] ∧ objs = [.arr (.rows N) ⟨25, true⟩, .arr (.rows O) ⟨25, true⟩]) by
    refine h.frz ?_
    rintro r objs ⟨rfl, rfl⟩
    exact ⟨[0, 1], _, 2, rfl, rfl, rfl⟩
  have hn := hV.v.n2
  have hn0 := hV.v.n1
  have hk2 := hV.v.k2
  have hol := hV.ol
  have htl := textM_len hV
  have hsp := textM_spaces hV
  have hdt := textM_dots hV
  have hts := textM_split hV
  have hrl := rowsM_len N O
  refine acall_intro (tyP_ok _) c17 2000 [.cell 2 24, .tmp 3] Tryz.func17 rfl (by rfl) rfl (by kernel_rfl) ?_
  unfold Tryz.f17
  simp (config := {implicitDefEqProofs := false, maxSteps := 4000000}) (disch := omega) only [push_cast, c17, Nat.reduceAdd, Nat.reduceSub, Nat.reduceMul, Nat.reduceBEq, Int.reduceToNat, Int.reduceNeg, Int.reduceLE, Int.reduceLT, Int.reduceBEq, Int.reduceBNe, Int.reduceEq, Bool.not_true, Bool.not_false, eq_self, reduceCtorEq]
  refine callW_eq _ _ (f34 (textM N O) 32) ?_
  simp (config := {implicitDefEqProofs := false, maxSteps := 4000000}) (disch := omega) only [push_cast, c17, Nat.reduceAdd, Nat.reduceSub, Nat.reduceMul, Nat.reduceBEq, Int.reduceToNat, Int.reduceNeg, Int.reduceLE, Int.reduceLT, Int.reduceBEq, Int.reduceBNe, Int.reduceEq, Bool.not_true, Bool.not_false, eq_self, reduceCtorEq]
  refine ⟨fun h => by omega, fun _ => ?_⟩
  refine callW_eq _ _ (f34 (textM N O) 46) ?_
  simp (config := {implicitDefEqProofs := false, maxSteps := 4000000}) (disch := omega) only [push_cast, c17, Nat.reduceAdd, Nat.reduceSub, Nat.reduceMul, Nat.reduceBEq, Int.reduceToNat, Int.reduceNeg, Int.reduceLE, Int.reduceLT, Int.reduceBEq, Int.reduceBNe, Int.reduceEq, Bool.not_true, Bool.not_false, eq_self, reduceCtorEq]
  refine ⟨fun h => by omega, fun _ => ?_⟩
  refine callW_eq _ _ (f35 (textM N O) 32 (by omega)) ?_
  rw [hts]
  simp (config := {implicitDefEqProofs := false, maxSteps := 4000000}) (disch := omega) only [push_cast, c17, hrl, Nat.reduceAdd, Nat.reduceSub, Nat.reduceMul, Nat.reduceBEq, Int.reduceToNat, Int.reduceNeg, Int.reduceLE, Int.reduceLT, Int.reduceBEq, Int.reduceBNe, Int.reduceEq, Bool.not_true, Bool.not_false, eq_self, reduceCtorEq]
  refine awp_virt (i := 1) (c := 0) (p := .rows []) 25 rfl rfl rfl ?_
  refine awp_virt (i := 1) (c := 1) (p := .rows []) 25 rfl rfl rfl ?_
  refine awp_upto (tyP_ok _) c17 2000 [0, 2, 3, 4, 30, 31, 32] (N.length) (fun _ => True) (fun i => ⟨102, [(0, .str (bs (textM N O))), (2, .ref 0 0), (3, .int .i64 0), (4, .ref 1 0), (30, .pay (.strs ((rowsM N O).map bs)) false), (31, .int .i64 N.length), (32, .int .i64 i)], [.box [.lit (.slice none 0 0), .lit (.slice none 0 0)], .box [.own 2, .own 3], .arr (.rows (N.take i)) ⟨25, true⟩, .arr (.rows (O.take i)) ⟨25, true⟩]⟩) (by kernel_rfl) ?_ ?_ ?_
  · simp (config := {implicitDefEqProofs := false, maxSteps := 4000000}) (disch := omega) only [push_cast, c17, hrl, Nat.reduceAdd, Nat.reduceSub, Nat.reduceMul, Nat.reduceBEq, Int.reduceToNat, Int.reduceNeg, Int.reduceLE, Int.reduceLT, Int.reduceBEq, Int.reduceBNe, Int.reduceEq, Bool.not_true, Bool.not_false, eq_self, reduceCtorEq]
  · trivial
  intro i hi _
  simp (config := {implicitDefEqProofs := false, maxSteps := 4000000}) (disch := omega) only [push_cast, c17, hrl, Nat.reduceAdd, Nat.reduceSub, Nat.reduceMul, Nat.reduceBEq, Int.reduceToNat, Int.reduceNeg, Int.reduceLE, Int.reduceLT, Int.reduceBEq, Int.reduceBNe, Int.reduceEq, Bool.not_true, Bool.not_false, eq_self, reduceCtorEq]
  refine ⟨fun hlt => ?_, fun hge => ?_⟩
  · obtain ⟨hn1, ho1⟩ := hV.lens hlt
    have hml := rowM_len hV hlt
    have hms := rowM_split hV hlt
    have hel := entL_len (N.getD i []) (O.getD i [])
    have hsuN : N.take (i + 1) = N.take i ++ [N.getD i []] := by rw [List.take_succ_eq_append_getElem hlt]; simp [hlt]
    have hsuO : O.take (i + 1) = O.take i ++ [O.getD i []] := by rw [List.take_succ_eq_append_getElem (by omega)]; simp [show i < O.length by omega]
    rw [rowsM_get hlt]
    refine ⟨hlt, ?_⟩
    refine callW_eq _ _ (f35 _ 46 (by omega)) ?_
    rw [hms]
    simp (config := {implicitDefEqProofs := false, maxSteps := 4000000}) (disch := omega) only [push_cast, c17, hel, hn1, Nat.reduceAdd, Nat.reduceSub, Nat.reduceMul, Nat.reduceBEq, Int.reduceToNat, Int.reduceNeg, Int.reduceLE, Int.reduceLT, Int.reduceBEq, Int.reduceBNe, Int.reduceEq, Bool.not_true, Bool.not_false, eq_self, reduceCtorEq]
    refine awp_upto (tyP_ok _) c17 2000 [0, 2, 3, 4, 7, 8, 30, 31, 32, 37, 38, 39] (k) (fun _ => True) (fun x => ⟨102, [(0, .str (bs (textM N O))), (2, .ref 0 0), (3, .int .i64 0), (4, .ref 1 0), (7, .own 2), (8, .own 3), (30, .pay (.strs ((rowsM N O).map bs)) false), (31, .int .i64 N.length), (32, .int .i64 i), (37, .pay (.strs ((entL (N.getD i []) (O.getD i [])).map bs)) false), (38, .int .i64 k), (39, .int .i64 x)], [.box [.lit (.slice none 0 0), .lit (.slice none 0 0)], .box [.own 4, .own 5], .arr (.ints .i64 ((N.getD i []).take x)) ⟨3, true⟩, .arr (.ints .i64 ((O.getD i []).take x)) ⟨3, true⟩, .arr (.rows (N.take i)) ⟨25, true⟩, .arr (.rows (O.take i)) ⟨25, true⟩]⟩) (by kernel_rfl) ?_ ?_ ?_
    · simp (config := {implicitDefEqProofs := false, maxSteps := 4000000}) (disch := omega) only [push_cast, c17, Nat.reduceAdd, Nat.reduceSub, Nat.reduceMul, Nat.reduceBEq, Int.reduceToNat, Int.reduceNeg, Int.reduceLE, Int.reduceLT, Int.reduceBEq, Int.reduceBNe, Int.reduceEq, Bool.not_true, Bool.not_false, eq_self, reduceCtorEq]
    · trivial
    intro x hx _
    simp (config := {implicitDefEqProofs := false, maxSteps := 4000000}) (disch := omega) only [push_cast, c17, hel, hn1, Nat.reduceAdd, Nat.reduceSub, Nat.reduceMul, Nat.reduceBEq, Int.reduceToNat, Int.reduceNeg, Int.reduceLE, Int.reduceLT, Int.reduceBEq, Int.reduceBNe, Int.reduceEq, Bool.not_true, Bool.not_false, eq_self, reduceCtorEq]
    refine ⟨fun hxk => ?_, fun hxk => ?_⟩
    · obtain ⟨⟨a1, a2⟩, b1, b2⟩ := hV.ent hlt hxk
      have na := numT_ok a1 a2
      have nb := numT_ok b1 b2
      rw [entL_get (by omega)]
      refine ⟨hxk, ?_⟩
      refine callW_eq _ _ (f36 _ _ a1 a2 b1 b2) ?_
      simp (config := {implicitDefEqProofs := false, maxSteps := 4000000}) (disch := omega) only [push_cast, c17, Nat.reduceAdd, Nat.reduceSub, Nat.reduceMul, Nat.reduceBEq, Int.reduceToNat, Int.reduceNeg, Int.reduceLE, Int.reduceLT, Int.reduceBEq, Int.reduceBNe, Int.reduceEq, Bool.not_true, Bool.not_false, eq_self, reduceCtorEq]
      refine callW_eq _ _ (f37 _ na.1.1 na.1.2.1 na.1.2.2.2) ?_
      rw [na.2]
      simp (config := {implicitDefEqProofs := false, maxSteps := 4000000}) (disch := omega) only [push_cast, c17, Nat.reduceAdd, Nat.reduceSub, Nat.reduceMul, Nat.reduceBEq, Int.reduceToNat, Int.reduceNeg, Int.reduceLE, Int.reduceLT, Int.reduceBEq, Int.reduceBNe, Int.reduceEq, Bool.not_true, Bool.not_false, eq_self, reduceCtorEq]
      refine callW_eq _ _ (f37 _ nb.1.1 nb.1.2.1 nb.1.2.2.2) ?_
      rw [nb.2]
      simp (config := {implicitDefEqProofs := false, maxSteps := 4000000}) (disch := omega) only [push_cast, c17, Nat.reduceAdd, Nat.reduceSub, Nat.reduceMul, Nat.reduceBEq, Int.reduceToNat, Int.reduceNeg, Int.reduceLE, Int.reduceLT, Int.reduceBEq, Int.reduceBNe, Int.reduceEq, Bool.not_true, Bool.not_false, eq_self, reduceCtorEq]
      refine ⟨by rw [List.length_take]; omega, by rw [List.length_take]; omega, hxk, take_succI (by omega), take_succI (by omega)⟩
    · rw [List.take_of_length_le (show (N.getD i []).length ≤ x by omega), List.take_of_length_le (show (O.getD i []).length ≤ x by omega)]
      exact ⟨by rw [List.length_take]; omega, by rw [List.length_take]; omega, hlt, hsuN.symm, hsuO.symm⟩
  · rw [List.take_of_length_le (show N.length ≤ i by omega), List.take_of_length_le (show O.length ≤ i by omega)]
    have hsm : ∀ r ∈ N, r.length ≤ 4611686018427387904 := fun r hr => by have := (hV.v.row r hr).1; omega
    have hsm2 : ∀ r ∈ O, r.length ≤ 4611686018427387904 := fun r hr => by have := (hV.orow r hr).1; omega
    have hT := f21 N O true true (by omega) hsm (by omega) hsm2
    refine callW_eq _ _ (hT.mono (Q' := fun r objs => r = .tup [.str (bs (textM N O)), .int .i64 0] ∧ objs = []) ?_) ?_
    · rintro r objs ⟨t, e, rfl, ⟨_, rfl, rfl⟩ | ⟨h, _⟩, rfl⟩
      · exact ⟨rfl, rfl⟩
      · rw [hV.ok] at h; cases h
    simp (config := {implicitDefEqProofs := false, maxSteps := 4000000}) (disch := omega) only [push_cast, c17, Nat.reduceAdd, Nat.reduceSub, Nat.reduceMul, Nat.reduceBEq, Int.reduceToNat, Int.reduceNeg, Int.reduceLE, Int.reduceLT, Int.reduceBEq, Int.reduceBNe, Int.reduceEq, Bool.not_true, Bool.not_false, eq_self, reduceCtorEq]
end Go.AM
end

/-! text Ue14 -/
section
namespace Go.AM
open Go Go.Proofs
def eN : List (List Int) := [[1, 0], [0, 1]]
def eO1 : List (List Int) := [[0, 1], [0, 1]]
def eO2 : List (List Int) := [[0, 1], [0, 0]]
theorem eV1 : VM eN eO1 2 := ⟨⟨by decide, by decide, by decide, by decide, by decide⟩, by decide, by decide⟩
theorem eV2 : VM eN eO2 2 := ⟨⟨by decide, by decide, by decide, by decide, by decide⟩, by decide, by decide⟩
theorem eT1 : textM eN eO1 = [49, 47, 48, 46, 48, 47, 49, 32, 48, 47, 48, 46, 49, 47, 49] := by decide +kernel
theorem eT2 : textM eN eO2 = [49, 47, 48, 46, 48, 47, 49, 32, 48, 47, 48, 46, 49, 47, 48] := by decide +kernel
theorem eC1 : clsT eN eO1 2 = [0, 0] := by decide +kernel
theorem eTell : TellR eN eO2 eN eO2 0 1 2 [1] true := .inl ⟨0, 1, by decide +kernel, by decide, by decide +kernel, by decide +kernel, fun j c' h => absurd h (Nat.not_lt_zero _), by decide +kernel, rfl⟩
theorem awk_Parse : ACall Tryz.prog 17 [.str (bs [49, 47, 48, 46, 48, 47, 49, 32, 48, 47, 48, 46, 49, 47, 49])] (fun r objs => r = .tup [.agg [.pay (.rows (eN)) (true), .pay (.rows (eO1)) (true)], .int .i64 0] ∧ objs = []) := by
  have := f17 eN eO1 2 eV1
  rwa [eT1] at this
theorem eb {k : Nat} {N O : List (List Int)} (h : VM N O k) : (N.length ≤ 4611686018427387904 ∧ ∀ r ∈ N, r.length ≤ 4611686018427387904) ∧ O.length ≤ 4611686018427387904 ∧ ∀ r ∈ O, r.length ≤ 4611686018427387904 := by
  have h1 := h.v.n2
  have h2 := h.v.k2
  have h3 := h.ol
  exact ⟨⟨by omega, fun r hr => by have := (h.v.row r hr).1; omega⟩, by omega, fun r hr => by have := (h.orow r hr).1; omega⟩
theorem awk_Classes (z z' : Bool) : ACall Tryz.prog 18 [.agg [.pay (.rows (eN)) (z), .pay (.rows (eO1)) (z')]] (fun r objs => r = .tup [.pay (.ints .i64 [0, 0]) true, .int .i64 0] ∧ objs = []) := by
  have hb := eb eV1
  refine (f18 eN eO1 z z' hb.1.1 hb.1.2 hb.2.1 hb.2.2).mono ?_
  rintro r objs ⟨c, e, ⟨h, _⟩ | ⟨_, rfl, rfl⟩, rfl, rfl⟩
  · rw [eV1.ok] at h; cases h
  · rw [eV1.k0, eC1]; exact ⟨rfl, rfl⟩
theorem awk_Apart (z z' : Bool) : ACall Tryz.prog 19 [.agg [.pay (.rows (eN)) (z), .pay (.rows (eO2)) (z')], .int .i64 0, .int .i64 1] (fun r objs => ∃ nz, r = .tup [.pay (.ints .i64 [1]) nz, .int .i64 0] ∧ objs = []) := by
  have hb := eb eV2
  refine (f19 eN eO2 z z' 0 1 hb.1.1 hb.1.2 hb.2.1 hb.2.2).mono ?_
  rintro r objs ⟨w, e, nz, ⟨h, _⟩ | ⟨_, h, _⟩ | ⟨_, _, ⟨h, rfl⟩ | ⟨h, _⟩⟩, rfl, rfl⟩
  · rw [eV2.ok] at h; cases h
  · exact absurd (by decide) h
  · rw [eV2.k0] at h
    rw [(h.uniq eTell).1]; exact ⟨nz, rfl, rfl⟩
  · rw [eV2.k0] at h
    cases (h.uniq eTell).2
theorem awk_Text (z z' : Bool) : ACall Tryz.prog 21 [.agg [.pay (.rows (eN)) (z), .pay (.rows (eO2)) (z')]] (fun r objs => r = .tup [.str (bs [49, 47, 48, 46, 48, 47, 49, 32, 48, 47, 48, 46, 49, 47, 48]), .int .i64 0] ∧ objs = []) := by
  have hb := eb eV2
  refine (f21 eN eO2 z z' hb.1.1 hb.1.2 hb.2.1 hb.2.2).mono ?_
  rintro r objs ⟨t, e, rfl, ⟨_, rfl, rfl⟩ | ⟨h, _⟩, rfl⟩
  · rw [eT2]; exact ⟨rfl, rfl⟩
  · rw [eV2.ok] at h; cases h
/- mizmaze/mizmazelaw07.awake -/
def c5 : VCfg := ⟨⟨[], [], [], [0, 1, 2, 3, 4, 5, 6, 7, 8]⟩, [], [], []⟩
set_option maxHeartbeats 4000000 in
set_option maxRecDepth 100000 in
theorem f5 : ACall Tryz.prog 5 [] (fun r objs => r = .bool true ∧ objs = []) := by
  refine acall_intro (tyP_ok _) c5 2000 [.tmp 0] Tryz.func5 rfl (by rfl) rfl (by kernel_rfl) ?_
  unfold Tryz.f5
  simp (config := {implicitDefEqProofs := false, maxSteps := 4000000}) (disch := omega) only [push_cast, c5, Nat.reduceAdd, Nat.reduceSub, Nat.reduceMul, Nat.reduceBEq, Int.reduceToNat, Int.reduceNeg, Int.reduceLE, Int.reduceLT, Int.reduceBEq, Int.reduceBNe, Int.reduceEq, Bool.not_true, Bool.not_false, eq_self, reduceCtorEq]
  refine callW_eq _ _ (awk_Parse) ?_
  simp (config := {implicitDefEqProofs := false, maxSteps := 4000000}) (disch := omega) only [push_cast, c5, Nat.reduceAdd, Nat.reduceSub, Nat.reduceMul, Nat.reduceBEq, Int.reduceToNat, Int.reduceNeg, Int.reduceLE, Int.reduceLT, Int.reduceBEq, Int.reduceBNe, Int.reduceEq, Bool.not_true, Bool.not_false, eq_self, reduceCtorEq]
  refine callW_eq _ _ (awk_Classes true true) ?_
  simp (config := {implicitDefEqProofs := false, maxSteps := 4000000}) (disch := omega) only [push_cast, c5, Nat.reduceAdd, Nat.reduceSub, Nat.reduceMul, Nat.reduceBEq, Int.reduceToNat, Int.reduceNeg, Int.reduceLE, Int.reduceLT, Int.reduceBEq, Int.reduceBNe, Int.reduceEq, Bool.not_true, Bool.not_false, eq_self, reduceCtorEq]
  refine callW_eq _ _ (f20) ?_
  simp (config := {implicitDefEqProofs := false, maxSteps := 4000000}) (disch := omega) only [push_cast, c5, Nat.reduceAdd, Nat.reduceSub, Nat.reduceMul, Nat.reduceBEq, Int.reduceToNat, Int.reduceNeg, Int.reduceLE, Int.reduceLT, Int.reduceBEq, Int.reduceBNe, Int.reduceEq, Bool.not_true, Bool.not_false, eq_self, reduceCtorEq]
  refine callW_rel (awk_Apart false false) ?_
  rintro R O ⟨nz, rfl, rfl⟩
  simp (config := {implicitDefEqProofs := false, maxSteps := 4000000}) (disch := omega) only [push_cast, c5, Nat.reduceAdd, Nat.reduceSub, Nat.reduceMul, Nat.reduceBEq, Int.reduceToNat, Int.reduceNeg, Int.reduceLE, Int.reduceLT, Int.reduceBEq, Int.reduceBNe, Int.reduceEq, Bool.not_true, Bool.not_false, eq_self, reduceCtorEq]
  refine callW_eq _ _ (f20) ?_
  simp (config := {implicitDefEqProofs := false, maxSteps := 4000000}) (disch := omega) only [push_cast, c5, Nat.reduceAdd, Nat.reduceSub, Nat.reduceMul, Nat.reduceBEq, Int.reduceToNat, Int.reduceNeg, Int.reduceLE, Int.reduceLT, Int.reduceBEq, Int.reduceBNe, Int.reduceEq, Bool.not_true, Bool.not_false, eq_self, reduceCtorEq]
  refine callW_eq _ _ (awk_Text false false) ?_
  simp (config := {implicitDefEqProofs := false, maxSteps := 4000000}) (disch := omega) only [push_cast, c5, Nat.reduceAdd, Nat.reduceSub, Nat.reduceMul, Nat.reduceBEq, Int.reduceToNat, Int.reduceNeg, Int.reduceLE, Int.reduceLT, Int.reduceBEq, Int.reduceBNe, Int.reduceEq, Bool.not_true, Bool.not_false, eq_self, reduceCtorEq]
  refine callW_eq _ _ (f11 [0, 0] [0, 0] _ _ (by decide)) ?_
  simp (config := {implicitDefEqProofs := false, maxSteps := 4000000}) (disch := omega) only [push_cast, c5, Nat.reduceAdd, Nat.reduceSub, Nat.reduceMul, Nat.reduceBEq, Int.reduceToNat, Int.reduceNeg, Int.reduceLE, Int.reduceLT, Int.reduceBEq, Int.reduceBNe, Int.reduceEq, Bool.not_true, Bool.not_false, eq_self, reduceCtorEq]
  refine callW_eq _ _ (f11 [1] [1] _ _ (by decide)) ?_
  simp (config := {implicitDefEqProofs := false, maxSteps := 4000000}) (disch := omega) only [push_cast, c5, Nat.reduceAdd, Nat.reduceSub, Nat.reduceMul, Nat.reduceBEq, Int.reduceToNat, Int.reduceNeg, Int.reduceLE, Int.reduceLT, Int.reduceBEq, Int.reduceBNe, Int.reduceEq, Bool.not_true, Bool.not_false, eq_self, reduceCtorEq]
  done
end Go.AM
end

/-
  Contracts of AutoMakes; conditions in each statement.
-/
import Derived.Test.YtnfflhaehdehaaaGreatDoorS6
import Derived.Test.YtnfflhaehdehaaaGreatDoorS2
set_option linter.unusedVariables false
set_option linter.unusedSimpArgs false
set_option linter.unusedSectionVars false

/-! text Ua13 -/
section
namespace Go.AM
open Go Go.Proofs
theorem powR_small {a words : List (List Int)} {n k : Nat} {m : Nat → Nat} (h : 1 ≤ words.length ∧ words.length ≤ 6 ∧ ∀ w ∈ words, wordB k w = true) : ∀ r ∈ powR a words n m, r.length ≤ 4611686018427387904 := by
  intro r hr
  obtain ⟨c, _, rfl⟩ := List.mem_map.1 hr
  simp; omega
theorem renF_row {n : Nat} {a : List (List Int)} {nm : List Int} (hP : NamesP n nm) {i : Nat} (hi : i < n) : ∀ m, m ≤ n → renF a nm m (nm.getD i 0).toNat = if i < m then (a.getD i []).map fun t => nm.getD t.toNat 0 else []
  | 0, _ => by simp [renF]
  | m + 1, hm => by
    have hnl := hP.1
    have h0 := (hP.2.1 _ (getD_mem (show m < nm.length by omega))).1
    have h1 := (hP.2.1 _ (getD_mem (show i < nm.length by omega))).1
    rw [renF_succ _ _ _ h0]
    unfold grown
    rw [renF_row hP hi m (by omega)]
    by_cases e : (nm.getD i 0).toNat = (nm.getD m 0).toNat
    · have : i = m := hP.inj hi (by omega) (by omega)
      subst this
      simp
    · rw [if_neg e]
      have : i ≠ m := fun h => e (by rw [h])
      by_cases h : i < m
      · rw [if_pos h, if_pos (by omega)]
      · rw [if_neg h, if_neg (by omega)]
theorem renF_small {a : List (List Int)} {nm : List Int} {k : Nat} (hV : Vld a k) (hP : NamesP a.length nm) : ∀ r ∈ rowsOf a.length (renF a nm a.length), r.length ≤ 4611686018427387904 := by
  intro r hr
  obtain ⟨c, hc, rfl⟩ := List.mem_map.1 hr
  have hc := List.mem_range.1 hc
  obtain ⟨i, hi, e⟩ := List.getElem_of_mem ((NamesP_iff.1 hP).2 c hc)
  have hnl := hP.1
  have e1 : nm.getD i 0 = c := by simp [List.getD, hi, e]
  have := renF_row (a := a) hP (i := i) (by omega) a.length (Nat.le_refl _)
  rw [e1] at this
  rw [show (Int.toNat (c : Int)) = c by omega] at this
  rw [this, if_pos (by omega)]
  have := (hV.row _ (getD_mem' (show i < a.length by omega))).1
  have := hV.k2
  rw [List.length_map]; omega
theorem SamesNil (z : Bool) : ACall Tryz.prog 32 [.pay (.rows []) z, .lit (.slice none 0 0)] (fun r objs => r = .bool true ∧ objs = []) :=
  ACall.nilArgs (.rows []) rfl ((f32 [] [] z true (by decide) (fun r hr => by cases hr)).mono fun r objs h => by simpa using h)
/- mizmaze/mizmazelaw01.AutoMakes -/
def c7 : VCfg := ⟨⟨[], [], [], [0, 1, 2, 3, 6, 7, 8, 9, 10, 11, 12, 13, 14, 30, 34, 44, 48]⟩, [], [], []⟩
set_option maxHeartbeats 8000000 in
theorem f7 (a : List (List Int)) (z z' z'' : Bool) (nm : List Int) (words : List (List Int)) (hl : a.length ≤ 4611686018427387904) (hl2 : ∀ r ∈ a, r.length ≤ 4611686018427387904) (hx : nm.length ≤ 4611686018427387904) (hw : words.length ≤ 4611686018427387904) (hw2 : ∀ r ∈ words, r.length ≤ 4611686018427387904) :
    ACall Tryz.prog 7 [.agg [.pay (.rows a) z], .pay (.ints .i64 nm) z', .pay (.rows words) z''] (fun r objs => r = .bool true ∧ objs = []) := by
  refine acall_intro (tyP_ok _) c7 2000 [.tmp 6] Tryz.func7 rfl (by rfl) rfl (by kernel_rfl) ?_
  unfold Tryz.f7
  simp (config := {implicitDefEqProofs := false, maxSteps := 4000000}) (disch := omega) only [push_cast, c7, Nat.reduceAdd, Nat.reduceSub, Nat.reduceMul, Nat.reduceBEq, Int.reduceToNat, Int.reduceNeg, Int.reduceLE, Int.reduceLT, Int.reduceBEq, Int.reduceBNe, Int.reduceEq, Bool.not_true, Bool.not_false, eq_self, reduceCtorEq]
  refine callW_rel (f26 a z z' nm hl hl2 hx) ?_
  rintro R O ⟨b, e, nz, hR, rfl, rfl⟩
  simp (config := {implicitDefEqProofs := false, maxSteps := 4000000}) (disch := omega) only [push_cast, c7, Nat.reduceAdd, Nat.reduceSub, Nat.reduceMul, Nat.reduceBEq, Int.reduceToNat, Int.reduceNeg, Int.reduceLE, Int.reduceLT, Int.reduceBEq, Int.reduceBNe, Int.reduceEq, Bool.not_true, Bool.not_false, eq_self, reduceCtorEq]
  refine callW_rel (f27 a z z'' words hl hl2 hw hw2) ?_
  rintro R O ⟨c, f, nz2, hR2, rfl, rfl⟩
  simp (config := {implicitDefEqProofs := false, maxSteps := 4000000}) (disch := omega) only [push_cast, c7, Nat.reduceAdd, Nat.reduceSub, Nat.reduceMul, Nat.reduceBEq, Int.reduceToNat, Int.reduceNeg, Int.reduceLE, Int.reduceLT, Int.reduceBEq, Int.reduceBNe, Int.reduceEq, Bool.not_true, Bool.not_false, eq_self, reduceCtorEq]
  refine callW_eq _ _ (f12 a z hl hl2) ?_
  simp (config := {implicitDefEqProofs := false, maxSteps := 4000000}) (disch := omega) only [push_cast, c7, Nat.reduceAdd, Nat.reduceSub, Nat.reduceMul, Nat.reduceBEq, Int.reduceToNat, Int.reduceNeg, Int.reduceLE, Int.reduceLT, Int.reduceBEq, Int.reduceBNe, Int.reduceEq, Bool.not_true, Bool.not_false, eq_self, reduceCtorEq]
  refine ⟨fun hv => ?_, fun hv => ?_⟩
  · refine callW_eq _ _ (f12 a z hl hl2) ?_
    simp (config := {implicitDefEqProofs := false, maxSteps := 4000000}) (disch := omega) only [push_cast, c7, Nat.reduceAdd, Nat.reduceSub, Nat.reduceMul, Nat.reduceBEq, Int.reduceToNat, Int.reduceNeg, Int.reduceLE, Int.reduceLT, Int.reduceBEq, Int.reduceBNe, Int.reduceEq, Bool.not_true, Bool.not_false, eq_self, reduceCtorEq]
    refine ⟨fun _ => ?_, fun h => (by rw [hv] at h; cases h)⟩
    have h := hR.f1 hv
    have h2 := hR2.f1 hv
    refine ⟨fun _ => ⟨fun _ => ?_, fun h3 => h3 h2.2⟩, fun h3 => h3 h.2⟩
    rw [h.1]
    refine callW_eq _ _ (SamesNil _) ?_
    simp (config := {implicitDefEqProofs := false, maxSteps := 4000000}) (disch := omega) only [push_cast, c7, Nat.reduceAdd, Nat.reduceSub, Nat.reduceMul, Nat.reduceBEq, Int.reduceToNat, Int.reduceNeg, Int.reduceLE, Int.reduceLT, Int.reduceBEq, Int.reduceBNe, Int.reduceEq, Bool.not_true, Bool.not_false, eq_self, reduceCtorEq]
    rw [h2.1]
    refine callW_eq _ _ (SamesNil _) ?_
    simp (config := {implicitDefEqProofs := false, maxSteps := 4000000}) (disch := omega) only [push_cast, c7, Nat.reduceAdd, Nat.reduceSub, Nat.reduceMul, Nat.reduceBEq, Int.reduceToNat, Int.reduceNeg, Int.reduceLE, Int.reduceLT, Int.reduceBEq, Int.reduceBNe, Int.reduceEq, Bool.not_true, Bool.not_false, eq_self, reduceCtorEq]
    refine callW_eq _ _ (f16) ?_
    simp (config := {implicitDefEqProofs := false, maxSteps := 4000000}) (disch := omega) only [push_cast, c7, Nat.reduceAdd, Nat.reduceSub, Nat.reduceMul, Nat.reduceBEq, Int.reduceToNat, Int.reduceNeg, Int.reduceLE, Int.reduceLT, Int.reduceBEq, Int.reduceBNe, Int.reduceEq, Bool.not_true, Bool.not_false, eq_self, reduceCtorEq]
  have hV := vldB_iff.1 hv
  have hn := hV.n2
  have hn0 := hV.n1
  refine callW_eq _ _ (f28 nm z' a.length hx (by omega)) ?_
  simp (config := {implicitDefEqProofs := false, maxSteps := 4000000}) (disch := omega) only [push_cast, c7, Nat.reduceAdd, Nat.reduceSub, Nat.reduceMul, Nat.reduceBEq, Int.reduceToNat, Int.reduceNeg, Int.reduceLE, Int.reduceLT, Int.reduceBEq, Int.reduceBNe, Int.reduceEq, Bool.not_true, Bool.not_false, eq_self, reduceCtorEq]
  refine ⟨fun hN => ?_, fun hN => ?_⟩
  · have h := hR.f2 hv hN
    refine callW_eq _ _ (f12 a z hl hl2) ?_
    simp (config := {implicitDefEqProofs := false, maxSteps := 4000000}) (disch := omega) only [push_cast, c7, Nat.reduceAdd, Nat.reduceSub, Nat.reduceMul, Nat.reduceBEq, Int.reduceToNat, Int.reduceNeg, Int.reduceLE, Int.reduceLT, Int.reduceBEq, Int.reduceBNe, Int.reduceEq, Bool.not_true, Bool.not_false, eq_self, reduceCtorEq]
    refine ⟨fun h => (by rw [hv] at h; cases h), fun _ => ?_⟩
    refine callW_eq _ _ (f30 a z z'' words (by omega) hw hw2) ?_
    simp (config := {implicitDefEqProofs := false, maxSteps := 4000000}) (disch := omega) only [push_cast, c7, Nat.reduceAdd, Nat.reduceSub, Nat.reduceMul, Nat.reduceBEq, Int.reduceToNat, Int.reduceNeg, Int.reduceLE, Int.reduceLT, Int.reduceBEq, Int.reduceBNe, Int.reduceEq, Bool.not_true, Bool.not_false, eq_self, reduceCtorEq]
    refine ⟨fun hW => ?_, fun hW => ?_⟩
    · have h2 := hR2.f2 hv hW
      refine ⟨fun _ => ⟨fun _ => ?_, fun h3 => h3 h2.2⟩, fun h3 => h3 h.2⟩
      rw [h.1]
      refine callW_eq _ _ (SamesNil _) ?_
      simp (config := {implicitDefEqProofs := false, maxSteps := 4000000}) (disch := omega) only [push_cast, c7, Nat.reduceAdd, Nat.reduceSub, Nat.reduceMul, Nat.reduceBEq, Int.reduceToNat, Int.reduceNeg, Int.reduceLE, Int.reduceLT, Int.reduceBEq, Int.reduceBNe, Int.reduceEq, Bool.not_true, Bool.not_false, eq_self, reduceCtorEq]
      rw [h2.1]
      refine callW_eq _ _ (SamesNil _) ?_
      simp (config := {implicitDefEqProofs := false, maxSteps := 4000000}) (disch := omega) only [push_cast, c7, Nat.reduceAdd, Nat.reduceSub, Nat.reduceMul, Nat.reduceBEq, Int.reduceToNat, Int.reduceNeg, Int.reduceLE, Int.reduceLT, Int.reduceBEq, Int.reduceBNe, Int.reduceEq, Bool.not_true, Bool.not_false, eq_self, reduceCtorEq]
      refine callW_eq _ _ (f16) ?_
      simp (config := {implicitDefEqProofs := false, maxSteps := 4000000}) (disch := omega) only [push_cast, c7, Nat.reduceAdd, Nat.reduceSub, Nat.reduceMul, Nat.reduceBEq, Int.reduceToNat, Int.reduceNeg, Int.reduceLE, Int.reduceLT, Int.reduceBEq, Int.reduceBNe, Int.reduceEq, Bool.not_true, Bool.not_false, eq_self, reduceCtorEq]
    · have h2 := hR2.f3 hv hW
      refine callW_eq _ _ (f31 a z z'' words hv hW) ?_
      simp (config := {implicitDefEqProofs := false, maxSteps := 4000000}) (disch := omega) only [push_cast, c7, Nat.reduceAdd, Nat.reduceSub, Nat.reduceMul, Nat.reduceBEq, Int.reduceToNat, Int.reduceNeg, Int.reduceLE, Int.reduceLT, Int.reduceBEq, Int.reduceBNe, Int.reduceEq, Bool.not_true, Bool.not_false, eq_self, reduceCtorEq]
      refine ⟨fun _ => ⟨fun _ => ?_, fun h3 => h3 h2.2⟩, fun h3 => h3 h.2⟩
      rw [h.1]
      refine callW_eq _ _ (SamesNil _) ?_
      simp (config := {implicitDefEqProofs := false, maxSteps := 4000000}) (disch := omega) only [push_cast, c7, Nat.reduceAdd, Nat.reduceSub, Nat.reduceMul, Nat.reduceBEq, Int.reduceToNat, Int.reduceNeg, Int.reduceLE, Int.reduceLT, Int.reduceBEq, Int.reduceBNe, Int.reduceEq, Bool.not_true, Bool.not_false, eq_self, reduceCtorEq]
      rw [h2.1]
      refine callW_eq _ _ (f32 _ _ _ _ (by rw [powR_len]; omega) (powR_small (wordsB_iff.1 hW))) ?_
      simp (config := {implicitDefEqProofs := false, maxSteps := 4000000}) (disch := omega) only [push_cast, c7, Nat.reduceAdd, Nat.reduceSub, Nat.reduceMul, Nat.reduceBEq, Int.reduceToNat, Int.reduceNeg, Int.reduceLE, Int.reduceLT, Int.reduceBEq, Int.reduceBNe, Int.reduceEq, Bool.not_true, Bool.not_false, eq_self, reduceCtorEq]
      refine callW_eq _ _ (f16) ?_
      simp (config := {implicitDefEqProofs := false, maxSteps := 4000000}) (disch := omega) only [push_cast, c7, Nat.reduceAdd, Nat.reduceSub, Nat.reduceMul, Nat.reduceBEq, Int.reduceToNat, Int.reduceNeg, Int.reduceLE, Int.reduceLT, Int.reduceBEq, Int.reduceBNe, Int.reduceEq, Bool.not_true, Bool.not_false, eq_self, reduceCtorEq]
  · have h := hR.f3 hv hN
    refine callW_eq _ _ (f29 a z z' nm hv hN) ?_
    simp (config := {implicitDefEqProofs := false, maxSteps := 4000000}) (disch := omega) only [push_cast, c7, Nat.reduceAdd, Nat.reduceSub, Nat.reduceMul, Nat.reduceBEq, Int.reduceToNat, Int.reduceNeg, Int.reduceLE, Int.reduceLT, Int.reduceBEq, Int.reduceBNe, Int.reduceEq, Bool.not_true, Bool.not_false, eq_self, reduceCtorEq]
    refine callW_eq _ _ (f12 a z hl hl2) ?_
    simp (config := {implicitDefEqProofs := false, maxSteps := 4000000}) (disch := omega) only [push_cast, c7, Nat.reduceAdd, Nat.reduceSub, Nat.reduceMul, Nat.reduceBEq, Int.reduceToNat, Int.reduceNeg, Int.reduceLE, Int.reduceLT, Int.reduceBEq, Int.reduceBNe, Int.reduceEq, Bool.not_true, Bool.not_false, eq_self, reduceCtorEq]
    refine ⟨fun h => (by rw [hv] at h; cases h), fun _ => ?_⟩
    refine callW_eq _ _ (f30 a z z'' words (by omega) hw hw2) ?_
    simp (config := {implicitDefEqProofs := false, maxSteps := 4000000}) (disch := omega) only [push_cast, c7, Nat.reduceAdd, Nat.reduceSub, Nat.reduceMul, Nat.reduceBEq, Int.reduceToNat, Int.reduceNeg, Int.reduceLE, Int.reduceLT, Int.reduceBEq, Int.reduceBNe, Int.reduceEq, Bool.not_true, Bool.not_false, eq_self, reduceCtorEq]
    refine ⟨fun hW => ?_, fun hW => ?_⟩
    · have h2 := hR2.f2 hv hW
      refine ⟨fun _ => ⟨fun _ => ?_, fun h3 => h3 h2.2⟩, fun h3 => h3 h.2⟩
      rw [h.1]
      refine callW_eq _ _ (f32 _ _ _ _ (by rw [rowsOf_len]; omega) (renF_small hV (namesB_iff.1 hN))) ?_
      simp (config := {implicitDefEqProofs := false, maxSteps := 4000000}) (disch := omega) only [push_cast, c7, Nat.reduceAdd, Nat.reduceSub, Nat.reduceMul, Nat.reduceBEq, Int.reduceToNat, Int.reduceNeg, Int.reduceLE, Int.reduceLT, Int.reduceBEq, Int.reduceBNe, Int.reduceEq, Bool.not_true, Bool.not_false, eq_self, reduceCtorEq]
      rw [h2.1]
      refine callW_eq _ _ (SamesNil _) ?_
      simp (config := {implicitDefEqProofs := false, maxSteps := 4000000}) (disch := omega) only [push_cast, c7, Nat.reduceAdd, Nat.reduceSub, Nat.reduceMul, Nat.reduceBEq, Int.reduceToNat, Int.reduceNeg, Int.reduceLE, Int.reduceLT, Int.reduceBEq, Int.reduceBNe, Int.reduceEq, Bool.not_true, Bool.not_false, eq_self, reduceCtorEq]
      refine callW_eq _ _ (f16) ?_
      simp (config := {implicitDefEqProofs := false, maxSteps := 4000000}) (disch := omega) only [push_cast, c7, Nat.reduceAdd, Nat.reduceSub, Nat.reduceMul, Nat.reduceBEq, Int.reduceToNat, Int.reduceNeg, Int.reduceLE, Int.reduceLT, Int.reduceBEq, Int.reduceBNe, Int.reduceEq, Bool.not_true, Bool.not_false, eq_self, reduceCtorEq]
    · have h2 := hR2.f3 hv hW
      refine callW_eq _ _ (f31 a z z'' words hv hW) ?_
      simp (config := {implicitDefEqProofs := false, maxSteps := 4000000}) (disch := omega) only [push_cast, c7, Nat.reduceAdd, Nat.reduceSub, Nat.reduceMul, Nat.reduceBEq, Int.reduceToNat, Int.reduceNeg, Int.reduceLE, Int.reduceLT, Int.reduceBEq, Int.reduceBNe, Int.reduceEq, Bool.not_true, Bool.not_false, eq_self, reduceCtorEq]
      refine ⟨fun _ => ⟨fun _ => ?_, fun h3 => h3 h2.2⟩, fun h3 => h3 h.2⟩
      rw [h.1]
      refine callW_eq _ _ (f32 _ _ _ _ (by rw [rowsOf_len]; omega) (renF_small hV (namesB_iff.1 hN))) ?_
      simp (config := {implicitDefEqProofs := false, maxSteps := 4000000}) (disch := omega) only [push_cast, c7, Nat.reduceAdd, Nat.reduceSub, Nat.reduceMul, Nat.reduceBEq, Int.reduceToNat, Int.reduceNeg, Int.reduceLE, Int.reduceLT, Int.reduceBEq, Int.reduceBNe, Int.reduceEq, Bool.not_true, Bool.not_false, eq_self, reduceCtorEq]
      rw [h2.1]
      refine callW_eq _ _ (f32 _ _ _ _ (by rw [powR_len]; omega) (powR_small (wordsB_iff.1 hW))) ?_
      simp (config := {implicitDefEqProofs := false, maxSteps := 4000000}) (disch := omega) only [push_cast, c7, Nat.reduceAdd, Nat.reduceSub, Nat.reduceMul, Nat.reduceBEq, Int.reduceToNat, Int.reduceNeg, Int.reduceLE, Int.reduceLT, Int.reduceBEq, Int.reduceBNe, Int.reduceEq, Bool.not_true, Bool.not_false, eq_self, reduceCtorEq]
      refine callW_eq _ _ (f16) ?_
      simp (config := {implicitDefEqProofs := false, maxSteps := 4000000}) (disch := omega) only [push_cast, c7, Nat.reduceAdd, Nat.reduceSub, Nat.reduceMul, Nat.reduceBEq, Int.reduceToNat, Int.reduceNeg, Int.reduceLE, Int.reduceLT, Int.reduceBEq, Int.reduceBNe, Int.reduceEq, Bool.not_true, Bool.not_false, eq_self, reduceCtorEq]
theorem lawAutoMakes (a : List (List Int)) (nm : List Int) (words : List (List Int)) (hl : a.length ≤ 4611686018427387904) (hl2 : ∀ r ∈ a, r.length ≤ 4611686018427387904) (hx : nm.length ≤ 4611686018427387904) (hw : words.length ≤ 4611686018427387904) (hw2 : ∀ r ∈ words, r.length ≤ 4611686018427387904) :
    ACall Tryz.prog 7 [.agg [.pay (.rows a) false], .pay (.ints .i64 nm) false, .pay (.rows words) false] (fun r objs => r = .bool true ∧ objs = []) := f7 a false false false nm words hl hl2 hx hw hw2
end Go.AM
end

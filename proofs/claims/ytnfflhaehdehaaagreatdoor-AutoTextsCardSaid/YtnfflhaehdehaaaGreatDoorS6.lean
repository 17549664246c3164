/-
  Contracts of Renamed and Power and of their reference; conditions in each statement.
-/
import Derived.Test.YtnfflhaehdehaaaGreatDoorS1
import Derived.Test.YtnfflhaehdehaaaGreatDoorP1
set_option linter.unusedVariables false
set_option linter.unusedSimpArgs false
set_option linter.unusedSectionVars false

/-! text Ua10 -/
section
namespace Go.AM
open Go Go.Proofs
/- mizmaze/auto.Names -/
def c51 : VCfg := ⟨⟨[], [], [], [0, 1, 4, 5, 7, 17, 20, 21, 22, 23, 29]⟩, [], [], []⟩
theorem f51 (l : List Int) (z : Bool) (n : Nat) (hl : l.length ≤ 4611686018427387904) (hn : n ≤ 1000) :
    ACall Tryz.prog 51 [.pay (.ints .i64 l) z, .int .i64 n] (fun r objs => r = .bool (namesB n l) ∧ objs = []) := by
  refine acall_intro (tyP_ok _) c51 2000 [.tmp 4] Tryz.func51 rfl (by rfl) rfl (by kernel_rfl) ?_
  unfold Tryz.f51
  simp (config := {implicitDefEqProofs := false, maxSteps := 4000000}) (disch := omega) only [push_cast, c51, Nat.reduceAdd, Nat.reduceSub, Nat.reduceMul, Nat.reduceBEq, Int.reduceToNat, Int.reduceNeg, Int.reduceLE, Int.reduceLT, Int.reduceBEq, Int.reduceBNe, Int.reduceEq, Bool.not_true, Bool.not_false, eq_self, reduceCtorEq]
  refine ⟨fun h => namesB_false fun hh => h hh.1, fun hl2 => ?_⟩
  refine callW_eq _ _ (f43 l z n hl) ?_
  simp (config := {implicitDefEqProofs := false, maxSteps := 4000000}) (disch := omega) only [push_cast, c51, Nat.reduceAdd, Nat.reduceSub, Nat.reduceMul, Nat.reduceBEq, Int.reduceToNat, Int.reduceNeg, Int.reduceLE, Int.reduceLT, Int.reduceBEq, Int.reduceBNe, Int.reduceEq, Bool.not_true, Bool.not_false, eq_self, reduceCtorEq]
  refine ⟨fun h => namesB_false fun hh => (by rw [belowB_iff.2 hh.2.1] at h; cases h), fun hb => ⟨by omega, ?_⟩⟩
  have hB := belowB_iff.1 hb
  refine awp_upto (tyP_ok _) c51 2000 [0, 1, 4, 5, 20, 21, 22] (l.length) (fun i => (l.take i).Nodup) (fun i => ⟨34, [(0, .pay (.ints .i64 l) z), (1, .int .i64 n), (4, .bool false), (5, .own 0), (20, .pay (.ints .i64 l) z), (21, .int .i64 l.length), (22, .int .i64 i)], [.arr (.bools (boolsOf n (l.take i))) ⟨4, false⟩]⟩) (by kernel_rfl) ?_ ?_ ?_
  · rw [List.take_zero, boolsOf_nil]; simp (config := {implicitDefEqProofs := false, maxSteps := 4000000}) (disch := omega) only [push_cast, c51, Nat.reduceAdd, Nat.reduceSub, Nat.reduceMul, Nat.reduceBEq, Int.reduceToNat, Int.reduceNeg, Int.reduceLE, Int.reduceLT, Int.reduceBEq, Int.reduceBNe, Int.reduceEq, Bool.not_true, Bool.not_false, eq_self, reduceCtorEq]
  · simp
  intro i hi hr
  simp (config := {implicitDefEqProofs := false, maxSteps := 4000000}) (disch := omega) only [push_cast, c51, boolsOf_len, Nat.reduceAdd, Nat.reduceSub, Nat.reduceMul, Nat.reduceBEq, Int.reduceToNat, Int.reduceNeg, Int.reduceLE, Int.reduceLT, Int.reduceBEq, Int.reduceBNe, Int.reduceEq, Bool.not_true, Bool.not_false, eq_self, reduceCtorEq]
  refine ⟨fun hlt => ?_, fun hge => ?_⟩
  · have hx := hB _ (getD_mem hlt)
    refine ⟨hlt, hx, fun h => namesB_false fun hh => ?_, fun h => ⟨hx, hlt, (nodup_take_succ hlt).2 ⟨hr, fun hm => ?_⟩, ?_⟩⟩
    · have h2 := (nodup_take_succ hlt).1 (hh.2.2.sublist (List.take_sublist _ _))
      rw [boolsOf_get hx.1 hx.2] at h
      exact h2.2 (of_decide_eq_true h)
    · rw [boolsOf_get hx.1 hx.2] at h
      exact of_decide_eq_false h hm
    · rw [boolsOf_set hx.1 hx.2, List.take_succ_eq_append_getElem hlt]
      simp [List.getD, hlt]
  · rw [List.take_of_length_le hge] at hr
    exact namesB_true ⟨hl2, hB, hr⟩
/- mizmaze/auto.Renamed -/
def c26 : VCfg := ⟨⟨[27], [], [], [0, 1, 2, 4, 5, 6, 7, 8, 10, 11, 16, 30, 31, 32, 33, 37, 38, 39, 40]⟩, [(12, (.op 0 .strict (.op 2 .strict (.op 3 .strict (.op 4 .strict (.op 5 .strict (.op 6 .strict (.op 8 .strict (.op 9 .strict (.op 10 .strict (.op 11 .strict (.op 14 .strict (.op 15 .strict (.op 16 .strict (.op 17 .strict (.alt (.op 1 .eff (.alt (.op 7 .eff (.op 12 .strict (.op 13 .loose (.op 18 .eff (.op 19 .eff (.op 20 .loose (.op 21 .eff .nil))))))) (.op 18 .eff (.op 7 .eff (.op 12 .strict (.op 13 .loose (.op 19 .eff (.op 20 .loose (.op 21 .eff .nil))))))))) (.alt (.op 7 .eff (.op 12 .strict (.op 13 .loose (.alt (.op 1 .eff (.op 18 .eff (.op 19 .eff (.op 20 .loose (.op 21 .eff .nil))))) (.op 18 .eff (.alt (.op 1 .eff (.op 19 .eff (.op 20 .loose (.op 21 .eff .nil)))) (.op 19 .eff (.op 1 .eff (.op 20 .loose (.op 21 .eff .nil)))))))))) (.op 18 .eff (.alt (.op 1 .eff (.op 7 .eff (.op 12 .strict (.op 13 .loose (.op 19 .eff (.op 20 .loose (.op 21 .eff .nil))))))) (.op 7 .eff (.op 12 .strict (.op 13 .loose (.alt (.op 1 .eff (.op 19 .eff (.op 20 .loose (.op 21 .eff .nil)))) (.op 19 .eff (.op 1 .eff (.op 20 .loose (.op 21 .eff .nil)))))))))))))))))))))))))))], [], []⟩
theorem f26 (a : List (List Int)) (z z' : Bool) (nm : List Int) (hl : a.length ≤ 4611686018427387904) (hl2 : ∀ r ∈ a, r.length ≤ 4611686018427387904) (hw : nm.length ≤ 4611686018427387904) :
    ACall Tryz.prog 26 [.agg [.pay (.rows a) z], .pay (.ints .i64 nm) z'] (fun r objs => ∃ A e nz, RenR a nm A e ∧ r = .tup [.agg [.pay (.rows A) nz], .int .i64 e] ∧ objs = []) := by
  suffices h : ACall Tryz.prog 26 [.agg [.pay (.rows a) z], .pay (.ints .i64 nm) z'] (fun r objs => (∃ e, RenR a nm [] e ∧ r = .tup [.agg [.lit (.slice none 0 0)], .int .i64 e] ∧ objs = []) ∨ (∃ A, RenR a nm A 0 ∧ r = .tup [.agg [.mh 0 .own], .int .i64 0] ∧ objs = [.nest A none 0 ⟨25, false⟩ 3 false])) by
    have h2 := h.fill (.rows []) rfl (Q' := fun r objs => (∃ e, RenR a nm [] e ∧ r = .tup [.agg [.pay (.rows []) true], .int .i64 e] ∧ objs = []) ∨ (∃ A, RenR a nm A 0 ∧ r = .tup [.agg [.mh 0 .own], .int .i64 0] ∧ objs = [.nest A none 0 ⟨25, false⟩ 3 false])) (by
      rintro r objs (⟨e, h1, rfl, rfl⟩ | ⟨A, h1, rfl, rfl⟩)
      · exact .inl ⟨e, h1, rfl, rfl⟩
      · exact .inr ⟨A, h1, rfl, rfl⟩)
    refine h2.frz ?_
    rintro r objs (⟨e, h1, rfl, rfl⟩ | ⟨A, h1, rfl, rfl⟩)
    · exact ⟨[], _, 0, rfl, [], e, true, h1, rfl, rfl⟩
    · exact ⟨[0], _, 1, rfl, A, 0, false, h1, rfl, rfl⟩
  refine acall_intro (tyP_ok _) c26 2000 [.cell 4 24, .tmp 5] Tryz.func26 rfl (by rfl) rfl (by kernel_rfl) ?_
  unfold Tryz.f26
  simp (config := {implicitDefEqProofs := false, maxSteps := 4000000}) (disch := omega) only [push_cast, c26, Nat.reduceAdd, Nat.reduceSub, Nat.reduceMul, Nat.reduceBEq, Int.reduceToNat, Int.reduceNeg, Int.reduceLE, Int.reduceLT, Int.reduceBEq, Int.reduceBNe, Int.reduceEq, Bool.not_true, Bool.not_false, eq_self, reduceCtorEq]
  refine callW_eq _ _ (f11 a z hl hl2) ?_
  simp (config := {implicitDefEqProofs := false, maxSteps := 4000000}) (disch := omega) only [push_cast, c26, Nat.reduceAdd, Nat.reduceSub, Nat.reduceMul, Nat.reduceBEq, Int.reduceToNat, Int.reduceNeg, Int.reduceLE, Int.reduceLT, Int.reduceBEq, Int.reduceBNe, Int.reduceEq, Bool.not_true, Bool.not_false, eq_self, reduceCtorEq]
  refine ⟨fun hv => .inl ⟨1, .inl ⟨hv, rfl, rfl⟩, rfl⟩, fun hv => ?_⟩
  have hV := vldB_iff.1 hv
  have hn := hV.n2
  have hn0 := hV.n1
  refine callW_eq _ _ (f51 nm z' a.length hw (by omega)) ?_
  simp (config := {implicitDefEqProofs := false, maxSteps := 4000000}) (disch := omega) only [push_cast, c26, Nat.reduceAdd, Nat.reduceSub, Nat.reduceMul, Nat.reduceBEq, Int.reduceToNat, Int.reduceNeg, Int.reduceLE, Int.reduceLT, Int.reduceBEq, Int.reduceBNe, Int.reduceEq, Bool.not_true, Bool.not_false, eq_self, reduceCtorEq]
  refine ⟨fun hN => .inl ⟨2, .inr (.inl ⟨hv, hN, rfl, rfl⟩), rfl⟩, fun hN => ⟨by omega, ?_⟩⟩
  have hP := namesB_iff.1 hN
  refine awp_upto (tyP_ok _) c26 2000 [1, 4, 5, 6, 30, 31, 32] (a.length) (fun _ => True) (fun i => ⟨67, [(1, .pay (.ints .i64 nm) z'), (4, .ref 0 0), (5, .int .i64 0), (6, .ref 1 0), (30, .pay (.rows a) z), (31, .int .i64 a.length), (32, .int .i64 i)], [.box [.lit (.slice none 0 0)], .box [.mh 2 .own], .nest (rowsOf a.length (renF a nm i)) none 0 ⟨25, false⟩ 3 false]⟩) (by kernel_rfl) ?_ ?_ ?_
  · rw [renF_zero, ← rowsOf_nil]; simp (config := {implicitDefEqProofs := false, maxSteps := 4000000}) (disch := omega) only [push_cast, c26, Nat.reduceAdd, Nat.reduceSub, Nat.reduceMul, Nat.reduceBEq, Int.reduceToNat, Int.reduceNeg, Int.reduceLE, Int.reduceLT, Int.reduceBEq, Int.reduceBNe, Int.reduceEq, Bool.not_true, Bool.not_false, eq_self, reduceCtorEq]
  · trivial
  intro i hi _
  simp (config := {implicitDefEqProofs := false, maxSteps := 4000000}) (disch := omega) only [push_cast, c26, Nat.reduceAdd, Nat.reduceSub, Nat.reduceMul, Nat.reduceBEq, Int.reduceToNat, Int.reduceNeg, Int.reduceLE, Int.reduceLT, Int.reduceBEq, Int.reduceBNe, Int.reduceEq, Bool.not_true, Bool.not_false, eq_self, reduceCtorEq]
  refine ⟨fun hlt => ⟨hlt, ?_⟩, fun hge => ?_⟩
  · have hrow := hV.row _ (getD_mem' hlt)
    have hni := hP.2.1 _ (getD_mem (show i < nm.length by rw [hP.1]; exact hlt))
    refine awp_upto (tyP_ok _) c26 2000 [1, 4, 5, 6, 7, 30, 31, 32, 37, 38, 39] ((a.getD i []).length) (fun _ => True) (fun k => ⟨67, [(1, .pay (.ints .i64 nm) z'), (4, .ref 0 0), (5, .int .i64 0), (6, .ref 1 0), (7, .int .i64 i), (30, .pay (.rows a) z), (31, .int .i64 a.length), (32, .int .i64 i), (37, .pay (.ints .i64 (a.getD i [])) false), (38, .int .i64 (a.getD i []).length), (39, .int .i64 k)], [.box [.lit (.slice none 0 0)], .box [.mh 2 .own], .nest (rowsOf a.length (grown (renF a nm i) (nm.getD i 0).toNat (((a.getD i []).take k).map fun t => nm.getD t.toNat 0))) none 0 ⟨25, false⟩ 3 false]⟩) (by kernel_rfl) ?_ ?_ ?_
    · rw [List.take_zero, List.map_nil, grown_nil]; simp (config := {implicitDefEqProofs := false, maxSteps := 4000000}) (disch := omega) only [push_cast, c26, Nat.reduceAdd, Nat.reduceSub, Nat.reduceMul, Nat.reduceBEq, Int.reduceToNat, Int.reduceNeg, Int.reduceLE, Int.reduceLT, Int.reduceBEq, Int.reduceBNe, Int.reduceEq, Bool.not_true, Bool.not_false, eq_self, reduceCtorEq]
    · trivial
    intro k hk _
    have hr0 := hrow.1
    have hk2 := hV.k2
    simp (config := {implicitDefEqProofs := false, maxSteps := 4000000}) (disch := omega) only [push_cast, c26, rowsOf_len, Nat.reduceAdd, Nat.reduceSub, Nat.reduceMul, Nat.reduceBEq, Int.reduceToNat, Int.reduceNeg, Int.reduceLE, Int.reduceLT, Int.reduceBEq, Int.reduceBNe, Int.reduceEq, Bool.not_true, Bool.not_false, eq_self, reduceCtorEq]
    refine ⟨fun hlk => ?_, fun hge => ⟨hlt, ?_⟩⟩
    · have hx := hrow.2 _ (getD_mem hlk)
      have hnl := hP.1
      rw [grown_getD (by omega), renF_fresh hP hlt, grown_set' (renF_fresh hP hlt), map_take_succ hlk]
      refine ⟨hlk, by omega, by omega, by omega, hni, ?_, hni, hlk, rfl⟩
      simp only [List.nil_append, List.length_map, List.length_take]
      omega
    · rw [renF_succ _ _ _ hni.1, List.take_of_length_le hge]
  · rw [show i = a.length by omega]
    exact .inr ⟨_, .inr (.inr ⟨hv, hN, rfl, rfl⟩), rfl⟩
end Go.AM
end

/-! text Ua11 -/
section
namespace Go.AM
open Go Go.Proofs
/- mizmaze/auto.Power$1 -/
def c52 : VCfg := ⟨⟨[], [], [], [0, 1, 3]⟩, [], [], []⟩
theorem f52 (a : List (List Int)) (z z' : Bool) (w : List Int) (ha : 0 < a.length) (hw : w.length ≤ 4611686018427387904) :
    ACall Tryz.prog 52 [.pay (.ints .i64 w) z', .fref [.pay (.rows a) z]] (fun r objs => r = .bool (!wordB (a.getD 0 []).length w) ∧ objs = []) := by
  refine acall_intro (tyP_ok _) c52 2000 [.tmp 3] Tryz.func52 rfl (by rfl) rfl (by kernel_rfl) ?_
  unfold Tryz.f52
  simp (config := {implicitDefEqProofs := false, maxSteps := 4000000}) (disch := omega) only [push_cast, c52, Nat.reduceAdd, Nat.reduceSub, Nat.reduceMul, Nat.reduceBEq, Int.reduceToNat, Int.reduceNeg, Int.reduceLE, Int.reduceLT, Int.reduceBEq, Int.reduceBNe, Int.reduceEq, Bool.not_true, Bool.not_false, eq_self, reduceCtorEq]
  refine callW_eq _ _ (f39 a z z' w ha hw) ?_
  simp (config := {implicitDefEqProofs := false, maxSteps := 4000000}) (disch := omega) only [push_cast, c52, Nat.reduceAdd, Nat.reduceSub, Nat.reduceMul, Nat.reduceBEq, Int.reduceToNat, Int.reduceNeg, Int.reduceLE, Int.reduceLT, Int.reduceBEq, Int.reduceBNe, Int.reduceEq, Bool.not_true, Bool.not_false, eq_self, reduceCtorEq]
/- mizmaze/auto.Power -/
def c27 : VCfg := ⟨⟨[31], [], [], [0, 1, 2, 4, 5, 6, 7, 9, 12, 26, 35, 36, 37, 39, 40, 41, 42]⟩, [(12, (.op 0 .strict (.op 2 .strict (.op 3 .strict (.op 5 .strict (.op 8 .strict (.op 9 .strict (.op 10 .strict (.alt (.op 1 .eff (.alt (.op 4 .eff (.op 6 .strict (.op 7 .loose (.op 11 .eff (.op 12 .eff (.op 13 .eff (.op 14 .loose (.op 15 .eff .nil)))))))) (.op 11 .eff (.alt (.op 4 .eff (.op 6 .strict (.op 7 .loose (.op 12 .eff (.op 13 .eff (.op 14 .loose (.op 15 .eff .nil))))))) (.op 12 .eff (.op 4 .eff (.op 6 .strict (.op 7 .loose (.op 13 .eff (.op 14 .loose (.op 15 .eff .nil))))))))))) (.alt (.op 4 .eff (.op 6 .strict (.op 7 .loose (.alt (.op 1 .eff (.op 11 .eff (.op 12 .eff (.op 13 .eff (.op 14 .loose (.op 15 .eff .nil)))))) (.op 11 .eff (.alt (.op 1 .eff (.op 12 .eff (.op 13 .eff (.op 14 .loose (.op 15 .eff .nil))))) (.op 12 .eff (.alt (.op 1 .eff (.op 13 .eff (.op 14 .loose (.op 15 .eff .nil)))) (.op 13 .eff (.op 1 .eff (.op 14 .loose (.op 15 .eff .nil)))))))))))) (.op 11 .eff (.alt (.op 1 .eff (.alt (.op 4 .eff (.op 6 .strict (.op 7 .loose (.op 12 .eff (.op 13 .eff (.op 14 .loose (.op 15 .eff .nil))))))) (.op 12 .eff (.op 4 .eff (.op 6 .strict (.op 7 .loose (.op 13 .eff (.op 14 .loose (.op 15 .eff .nil))))))))) (.alt (.op 4 .eff (.op 6 .strict (.op 7 .loose (.alt (.op 1 .eff (.op 12 .eff (.op 13 .eff (.op 14 .loose (.op 15 .eff .nil))))) (.op 12 .eff (.alt (.op 1 .eff (.op 13 .eff (.op 14 .loose (.op 15 .eff .nil)))) (.op 13 .eff (.op 1 .eff (.op 14 .loose (.op 15 .eff .nil)))))))))) (.op 12 .eff (.alt (.op 1 .eff (.op 4 .eff (.op 6 .strict (.op 7 .loose (.op 13 .eff (.op 14 .loose (.op 15 .eff .nil))))))) (.op 4 .eff (.op 6 .strict (.op 7 .loose (.alt (.op 1 .eff (.op 13 .eff (.op 14 .loose (.op 15 .eff .nil)))) (.op 13 .eff (.op 1 .eff (.op 14 .loose (.op 15 .eff .nil)))))))))))))))))))))))], [], []⟩
set_option maxHeartbeats 8000000 in
theorem f27 (a : List (List Int)) (z z' : Bool) (words : List (List Int)) (hl : a.length ≤ 4611686018427387904) (hl2 : ∀ r ∈ a, r.length ≤ 4611686018427387904) (hw : words.length ≤ 4611686018427387904) (hw2 : ∀ r ∈ words, r.length ≤ 4611686018427387904) :
    ACall Tryz.prog 27 [.agg [.pay (.rows a) z], .pay (.rows words) z'] (fun r objs => ∃ A e nz, PowR a words A e ∧ r = .tup [.agg [.pay (.rows A) nz], .int .i64 e] ∧ objs = []) := by
  suffices h : ACall Tryz.prog 27 [.agg [.pay (.rows a) z], .pay (.rows words) z'] (fun r objs => (∃ e, PowR a words [] e ∧ r = .tup [.agg [.lit (.slice none 0 0)], .int .i64 e] ∧ objs = []) ∨ (∃ A, PowR a words A 0 ∧ r = .tup [.agg [.mh 0 .own], .int .i64 0] ∧ objs = [.nest A none 0 ⟨25, false⟩ 3 false])) by
    have h2 := h.fill (.rows []) rfl (Q' := fun r objs => (∃ e, PowR a words [] e ∧ r = .tup [.agg [.pay (.rows []) true], .int .i64 e] ∧ objs = []) ∨ (∃ A, PowR a words A 0 ∧ r = .tup [.agg [.mh 0 .own], .int .i64 0] ∧ objs = [.nest A none 0 ⟨25, false⟩ 3 false])) (by
      rintro r objs (⟨e, h1, rfl, rfl⟩ | ⟨A, h1, rfl, rfl⟩)
      · exact .inl ⟨e, h1, rfl, rfl⟩
      · exact .inr ⟨A, h1, rfl, rfl⟩)
    refine h2.frz ?_
    rintro r objs (⟨e, h1, rfl, rfl⟩ | ⟨A, h1, rfl, rfl⟩)
    · exact ⟨[], _, 0, rfl, [], e, true, h1, rfl, rfl⟩
    · exact ⟨[0], _, 1, rfl, A, 0, false, h1, rfl, rfl⟩
  refine acall_intro (tyP_ok _) c27 2000 [.cell 4 24, .tmp 5] Tryz.func27 rfl (by rfl) rfl (by kernel_rfl) ?_
  unfold Tryz.f27
  simp (config := {implicitDefEqProofs := false, maxSteps := 4000000}) (disch := omega) only [push_cast, c27, Nat.reduceAdd, Nat.reduceSub, Nat.reduceMul, Nat.reduceBEq, Int.reduceToNat, Int.reduceNeg, Int.reduceLE, Int.reduceLT, Int.reduceBEq, Int.reduceBNe, Int.reduceEq, Bool.not_true, Bool.not_false, eq_self, reduceCtorEq]
  refine callW_eq _ _ (f11 a z hl hl2) ?_
  simp (config := {implicitDefEqProofs := false, maxSteps := 4000000}) (disch := omega) only [push_cast, c27, Nat.reduceAdd, Nat.reduceSub, Nat.reduceMul, Nat.reduceBEq, Int.reduceToNat, Int.reduceNeg, Int.reduceLE, Int.reduceLT, Int.reduceBEq, Int.reduceBNe, Int.reduceEq, Bool.not_true, Bool.not_false, eq_self, reduceCtorEq]
  refine ⟨fun hv => .inl ⟨1, .inl ⟨hv, rfl, rfl⟩, rfl⟩, fun hv => ?_⟩
  have hV := vldB_iff.1 hv
  have hn := hV.n2
  have hn0 := hV.n1
  refine ⟨fun hb => .inl ⟨2, .inr (.inl ⟨hv, (wordsB_false fun h => by omega).symm, rfl, rfl⟩), rfl⟩, fun hb => ⟨fun hb2 => .inl ⟨2, .inr (.inl ⟨hv, (wordsB_false fun h => by omega).symm, rfl, rfl⟩), rfl⟩, fun hb2 => ?_⟩⟩
  refine callW_eq _ _ (f41 words z' hw 52 _ (fun w => !wordB (a.getD 0 []).length w) (fun x hx => f52 a z false x (by omega) (hw2 x hx)) (NoH.of rfl rfl)) ?_
  simp (config := {implicitDefEqProofs := false, maxSteps := 4000000}) (disch := omega) only [push_cast, c27, Nat.reduceAdd, Nat.reduceSub, Nat.reduceMul, Nat.reduceBEq, Int.reduceToNat, Int.reduceNeg, Int.reduceLE, Int.reduceLT, Int.reduceBEq, Int.reduceBNe, Int.reduceEq, Bool.not_true, Bool.not_false, eq_self, reduceCtorEq]
  refine ⟨fun hc => .inl ⟨2, .inr (.inl ⟨hv, (wordsB_false fun h => ?_).symm, rfl, rfl⟩), rfl⟩, fun hc => ⟨by omega, ?_⟩⟩
  · obtain ⟨w, h1, h2⟩ := List.any_eq_true.1 hc
    rw [h.2.2 w h1] at h2
    cases h2
  have hWs : wordsB (a.getD 0 []).length words = true := wordsB_iff.2 ⟨by omega, by omega, fun w hw => by
    have := List.any_eq_false.1 hc w hw
    simpa using this⟩
  have hWw := (wordsB_iff.1 hWs).2.2
  refine awp_upto (tyP_ok _) c27 2000 [1, 2, 4, 5, 6, 35, 36] (a.length) (fun _ => True) (fun i => ⟨63, [(1, .pay (.rows words) z'), (2, .fref [.pay (.rows a) z]), (4, .ref 0 0), (5, .int .i64 0), (6, .ref 1 0), (35, .int .i64 a.length), (36, .int .i64 i)], [.box [.lit (.slice none 0 0)], .box [.mh 2 .own], .nest (powR a words a.length (fun c => if c < i then words.length else 0)) none 0 ⟨25, false⟩ 3 false]⟩) (by kernel_rfl) ?_ ?_ ?_
  · rw [powR_zero a words]
    simp only [Nat.not_lt_zero, if_false]
    simp (config := {implicitDefEqProofs := false, maxSteps := 4000000}) (disch := omega) only [push_cast, c27, Nat.reduceAdd, Nat.reduceSub, Nat.reduceMul, Nat.reduceBEq, Int.reduceToNat, Int.reduceNeg, Int.reduceLE, Int.reduceLT, Int.reduceBEq, Int.reduceBNe, Int.reduceEq, Bool.not_true, Bool.not_false, eq_self, reduceCtorEq]
  · trivial
  intro i hi _
  simp (config := {implicitDefEqProofs := false, maxSteps := 4000000}) (disch := omega) only [push_cast, c27, Nat.reduceAdd, Nat.reduceSub, Nat.reduceMul, Nat.reduceBEq, Int.reduceToNat, Int.reduceNeg, Int.reduceLE, Int.reduceLT, Int.reduceBEq, Int.reduceBNe, Int.reduceEq, Bool.not_true, Bool.not_false, eq_self, reduceCtorEq]
  refine ⟨fun hlt => ?_, fun hge => .inr ⟨_, .inr (.inr ⟨hv, hWs, ?_, rfl⟩), rfl⟩⟩
  · refine awp_upto (tyP_ok _) c27 2000 [1, 2, 4, 5, 6, 7, 35, 36, 39, 40, 41] (words.length) (fun _ => True) (fun k => ⟨63, [(1, .pay (.rows words) z'), (2, .fref [.pay (.rows a) z]), (4, .ref 0 0), (5, .int .i64 0), (6, .ref 1 0), (7, .int .i64 i), (35, .int .i64 a.length), (36, .int .i64 i), (39, .pay (.rows words) z'), (40, .int .i64 words.length), (41, .int .i64 k)], [.box [.lit (.slice none 0 0)], .box [.mh 2 .own], .nest (powR a words a.length (fun c => if c < i then words.length else if c = i then k else 0)) none 0 ⟨25, false⟩ 3 false]⟩) (by kernel_rfl) ?_ ?_ ?_
    · simp only [ite_self]
      simp (config := {implicitDefEqProofs := false, maxSteps := 4000000}) (disch := omega) only [push_cast, c27, Nat.reduceAdd, Nat.reduceSub, Nat.reduceMul, Nat.reduceBEq, Int.reduceToNat, Int.reduceNeg, Int.reduceLE, Int.reduceLT, Int.reduceBEq, Int.reduceBNe, Int.reduceEq, Bool.not_true, Bool.not_false, eq_self, reduceCtorEq]
    · trivial
    intro k hk _
    simp (config := {implicitDefEqProofs := false, maxSteps := 4000000}) (disch := omega) only [push_cast, c27, powR_len, Nat.reduceAdd, Nat.reduceSub, Nat.reduceMul, Nat.reduceBEq, Int.reduceToNat, Int.reduceNeg, Int.reduceLE, Int.reduceLT, Int.reduceBEq, Int.reduceBNe, Int.reduceEq, Bool.not_true, Bool.not_false, eq_self, reduceCtorEq]
    refine ⟨fun hlk => ⟨hlk, ?_⟩, fun hge => ?_⟩
    · have hw1 := hWw _ (getD_mem' hlk)
      have hSet := powR_set (a := a) (words := words) (n := a.length) (m := fun c => if c < i then words.length else if c = i then k else 0) (m' := fun c => if c < i then words.length else if c = i then k + 1 else 0) (j := i) hlt (by simpa using hlk) (fun c _ => by
        by_cases e : c = i
        · subst e; simp
        · simp [e])
      simp only [Nat.lt_irrefl, if_false, if_true] at hSet
      have hL : ((powR a words a.length fun c => if c < i then words.length else if c = i then k else 0).getD i []).length + 1 ≤ 7 := by
        rw [powR_getD hlt]; simp; omega
      repeat' apply And.intro
      all_goals try omega
      all_goals
        refine callW_eq _ _ (f40 a z false _ _ (hw2 _ (getD_mem' hlk)) _ hV (by omega) (wordB_iff.1 hw1).2) ?_
        simp (config := {implicitDefEqProofs := false, maxSteps := 4000000}) (disch := omega) only [push_cast, c27, Nat.reduceAdd, Nat.reduceSub, Nat.reduceMul, Nat.reduceBEq, Int.reduceToNat, Int.reduceNeg, Int.reduceLE, Int.reduceLT, Int.reduceBEq, Int.reduceBNe, Int.reduceEq, Bool.not_true, Bool.not_false, eq_self, reduceCtorEq]
        simp only [powR_len]
        repeat' apply And.intro
        all_goals first | exact hSet | omega
    · refine ⟨hlt, ?_⟩
      exact powR_congr fun c hc => by
        by_cases e : c = i
        · subst e; simp; omega
        · by_cases e2 : c < i
          · rw [if_pos e2, if_pos (by omega)]
          · rw [if_neg e2, if_neg e, if_neg (by omega)]
  · exact powR_congr fun c hc => by rw [if_pos (by omega)]
end Go.AM
end

/-! text Ua12 -/
section
namespace Go.AM
open Go Go.Proofs
/- mizmaze/mizmazeref01.Names -/
def c28 : VCfg := ⟨⟨[], [], [], [0, 1, 4, 5, 9, 12, 18]⟩, [], [], []⟩
theorem f28 (l : List Int) (z : Bool) (n : Nat) (hl : l.length ≤ 4611686018427387904) (hn : n ≤ 1000) :
    ACall Tryz.prog 28 [.pay (.ints .i64 l) z, .int .i64 n] (fun r objs => r = .bool (namesB n l) ∧ objs = []) := by
  refine acall_intro (tyP_ok _) c28 2000 [.tmp 4] Tryz.func28 rfl (by rfl) rfl (by kernel_rfl) ?_
  unfold Tryz.f28
  simp (config := {implicitDefEqProofs := false, maxSteps := 4000000}) (disch := omega) only [push_cast, c28, Nat.reduceAdd, Nat.reduceSub, Nat.reduceMul, Nat.reduceBEq, Int.reduceToNat, Int.reduceNeg, Int.reduceLE, Int.reduceLT, Int.reduceBEq, Int.reduceBNe, Int.reduceEq, Bool.not_true, Bool.not_false, eq_self, reduceCtorEq]
  refine ⟨fun h => namesB_false fun hh => h hh.1, fun hl2 => ?_⟩
  refine awp_upto (tyP_ok _) c28 2000 [0, 1, 4, 5] (n) (fun i => ∀ j : Nat, j < i → (j : Int) ∈ l) (fun i => ⟨19, [(0, .pay (.ints .i64 l) z), (1, .int .i64 n), (4, .bool false), (5, .int .i64 i)], []⟩) (by kernel_rfl) rfl ?_ ?_
  · exact fun j hj => by omega
  intro i hi hr
  simp (config := {implicitDefEqProofs := false, maxSteps := 4000000}) (disch := omega) only [push_cast, c28, Nat.reduceAdd, Nat.reduceSub, Nat.reduceMul, Nat.reduceBEq, Int.reduceToNat, Int.reduceNeg, Int.reduceLE, Int.reduceLT, Int.reduceBEq, Int.reduceBNe, Int.reduceEq, Bool.not_true, Bool.not_false, eq_self, reduceCtorEq]
  refine ⟨fun hlt => ?_, fun hge => namesB_true (NamesP_iff.2 ⟨hl2, fun j hj => hr j (by omega)⟩)⟩
  refine callW_eq _ _ (f25 l z _ hl) ?_
  simp (config := {implicitDefEqProofs := false, maxSteps := 4000000}) (disch := omega) only [push_cast, c28, Nat.reduceAdd, Nat.reduceSub, Nat.reduceMul, Nat.reduceBEq, Int.reduceToNat, Int.reduceNeg, Int.reduceLE, Int.reduceLT, Int.reduceBEq, Int.reduceBNe, Int.reduceEq, Bool.not_true, Bool.not_false, eq_self, reduceCtorEq]
  exact ⟨fun h => namesB_false fun hh => h ((NamesP_iff.1 hh).2 i hlt), fun h => ⟨hlt, upto_succ hr h⟩⟩
/- mizmaze/mizmazeref01.Words -/
def c30 : VCfg := ⟨⟨[], [], [], [0, 1, 2, 4, 5, 13, 17, 26]⟩, [(6, (.op 0 .loose (.op 1 .loose (.op 2 .loose (.op 3 .loose (.op 4 .loose (.op 5 .eff (.op 6 .loose .nil))))))))], [], []⟩
theorem f30 (a : List (List Int)) (z z' : Bool) (words : List (List Int)) (ha : 0 < a.length) (hw : words.length ≤ 4611686018427387904) (hw2 : ∀ r ∈ words, r.length ≤ 4611686018427387904) :
    ACall Tryz.prog 30 [.agg [.pay (.rows a) z], .pay (.rows words) z'] (fun r objs => r = .bool (wordsB (a.getD 0 []).length words) ∧ objs = []) := by
  refine acall_intro (tyP_ok _) c30 2000 [.tmp 4] Tryz.func30 rfl (by rfl) rfl (by kernel_rfl) ?_
  unfold Tryz.f30
  simp (config := {implicitDefEqProofs := false, maxSteps := 4000000}) (disch := omega) only [push_cast, c30, Nat.reduceAdd, Nat.reduceSub, Nat.reduceMul, Nat.reduceBEq, Int.reduceToNat, Int.reduceNeg, Int.reduceLE, Int.reduceLT, Int.reduceBEq, Int.reduceBNe, Int.reduceEq, Bool.not_true, Bool.not_false, eq_self, reduceCtorEq]
  refine ⟨fun hb => wordsB_false fun h => by omega, fun hb => ⟨fun hb2 => wordsB_false fun h => by omega, fun hb2 => ?_⟩⟩
  refine awp_upto (tyP_ok _) c30 2000 [1, 2, 4, 5] (words.length) (fun i => ∀ j, j < i → wordB (a.getD 0 []).length (words.getD j []) = true) (fun i => ⟨27, [(1, .pay (.rows words) z'), (2, .fref [.pay (.rows a) z]), (4, .bool false), (5, .int .i64 i)], []⟩) (by kernel_rfl) rfl ?_ ?_
  · exact fun j hj => by omega
  intro i hi hr
  simp (config := {implicitDefEqProofs := false, maxSteps := 4000000}) (disch := omega) only [push_cast, c30, Nat.reduceAdd, Nat.reduceSub, Nat.reduceMul, Nat.reduceBEq, Int.reduceToNat, Int.reduceNeg, Int.reduceLE, Int.reduceLT, Int.reduceBEq, Int.reduceBNe, Int.reduceEq, Bool.not_true, Bool.not_false, eq_self, reduceCtorEq]
  refine ⟨fun hlt => ⟨hlt, ?_⟩, fun hge => (wordsB_iff.2 ⟨by omega, by omega, fun w hw => ?_⟩).symm⟩
  · refine callW_eq _ _ (f14 a z false _ ha (hw2 _ (getD_mem' hlt))) ?_
    simp (config := {implicitDefEqProofs := false, maxSteps := 4000000}) (disch := omega) only [push_cast, c30, Nat.reduceAdd, Nat.reduceSub, Nat.reduceMul, Nat.reduceBEq, Int.reduceToNat, Int.reduceNeg, Int.reduceLE, Int.reduceLT, Int.reduceBEq, Int.reduceBNe, Int.reduceEq, Bool.not_true, Bool.not_false, eq_self, reduceCtorEq]
    exact ⟨fun h => wordsB_false fun hh => (by rw [hh.2.2 _ (getD_mem' hlt)] at h; cases h), fun h => ⟨hlt, upto_succ hr h⟩⟩
  · obtain ⟨j, hj, rfl⟩ := List.getElem_of_mem hw
    have := hr j (by omega)
    rwa [show words.getD j [] = words[j] by simp [List.getD, hj]] at this
/- mizmaze/mizmazeref01.Sames -/
def c32 : VCfg := ⟨⟨[], [], [], [0, 1, 4, 5, 10, 14, 26]⟩, [(6, (.op 0 .loose (.op 1 .loose (.op 2 .loose (.op 3 .loose (.op 4 .loose (.op 5 .loose (.op 6 .loose (.op 7 .loose (.op 8 .eff (.op 9 .loose .nil)))))))))))], [], []⟩
theorem f32 (x y : List (List Int)) (z z' : Bool) (hx : x.length ≤ 4611686018427387904) (hx2 : ∀ r ∈ x, r.length ≤ 4611686018427387904) :
    ACall Tryz.prog 32 [.pay (.rows x) z, .pay (.rows y) z'] (fun r objs => r = .bool (decide (x = y)) ∧ objs = []) := by
  refine acall_intro (tyP_ok _) c32 2000 [.tmp 4] Tryz.func32 rfl (by rfl) rfl (by kernel_rfl) ?_
  unfold Tryz.f32
  simp (config := {implicitDefEqProofs := false, maxSteps := 4000000}) (disch := omega) only [push_cast, c32, Nat.reduceAdd, Nat.reduceSub, Nat.reduceMul, Nat.reduceBEq, Int.reduceToNat, Int.reduceNeg, Int.reduceLE, Int.reduceLT, Int.reduceBEq, Int.reduceBNe, Int.reduceEq, Bool.not_true, Bool.not_false, eq_self, reduceCtorEq]
  refine ⟨fun h => (decide_eq_false fun e : x = y => h (by rw [e])).symm, fun hl => ?_⟩
  refine awp_upto (tyP_ok _) c32 2000 [0, 1, 4, 5] (x.length) (fun i => ∀ j, j < i → x.getD j [] = y.getD j []) (fun i => ⟨27, [(0, .pay (.rows x) z), (1, .pay (.rows y) z'), (4, .bool false), (5, .int .i64 i)], []⟩) (by kernel_rfl) rfl ?_ ?_
  · exact fun j hj => by omega
  intro i hi hr
  simp (config := {implicitDefEqProofs := false, maxSteps := 4000000}) (disch := omega) only [push_cast, c32, Nat.reduceAdd, Nat.reduceSub, Nat.reduceMul, Nat.reduceBEq, Int.reduceToNat, Int.reduceNeg, Int.reduceLE, Int.reduceLT, Int.reduceBEq, Int.reduceBNe, Int.reduceEq, Bool.not_true, Bool.not_false, eq_self, reduceCtorEq]
  refine ⟨fun hlt => ⟨hlt, by omega, ?_⟩, fun hge => ?_⟩
  · refine callW_eq _ _ (f22 _ _ false false (hx2 _ (getD_mem' hlt))) ?_
    simp (config := {implicitDefEqProofs := false, maxSteps := 4000000}) (disch := omega) only [push_cast, c32, Nat.reduceAdd, Nat.reduceSub, Nat.reduceMul, Nat.reduceBEq, Int.reduceToNat, Int.reduceNeg, Int.reduceLE, Int.reduceLT, Int.reduceBEq, Int.reduceBNe, Int.reduceEq, Bool.not_true, Bool.not_false, eq_self, reduceCtorEq]
    exact ⟨fun h => (decide_eq_false fun e : x = y => h (by rw [e])).symm, fun h => ⟨hlt, upto_succ hr h⟩⟩
  · symm
    rw [decide_eq_true_eq]
    refine List.ext_getElem hl fun j h1 h2 => ?_
    have := hr j (by omega)
    simpa [List.getD, h1, h2] using this
/- mizmaze/mizmazeref01.Renamed -/
def c29 : VCfg := ⟨⟨[], [], [7], [0, 1, 2, 4, 5, 6, 7, 8, 18, 24]⟩, [(10, (.op 0 .loose (.op 1 .loose (.op 2 .loose (.op 3 .loose (.op 4 .loose (.op 5 .loose (.op 6 .loose (.op 7 .loose (.op 8 .eff .nil))))))))))], [], []⟩
theorem f29 (a : List (List Int)) (z z' : Bool) (nm : List Int) (hv : vldB a = true) (hN : namesB a.length nm = true) :
    ACall Tryz.prog 29 [.agg [.pay (.rows a) z], .pay (.ints .i64 nm) z'] (fun r objs => r = .agg [.pay (.rows (rowsOf a.length (renF a nm a.length))) false] ∧ objs = []) := by
  suffices h : ACall Tryz.prog 29 [.agg [.pay (.rows a) z], .pay (.ints .i64 nm) z'] (fun r objs => r = .agg [.own 0] ∧ objs = [.arr (.rows (rowsOf a.length (renF a nm a.length))) ⟨25, false⟩]) by
    refine h.frz ?_
    rintro r objs ⟨rfl, rfl⟩
    exact ⟨[0], _, 1, rfl, rfl, rfl⟩
  have hV := vldB_iff.1 hv
  have hn := hV.n2
  have hn0 := hV.n1
  have hP := namesB_iff.1 hN
  have hnl := hP.1
  have hk2 := hV.k2
  refine acall_intro (tyP_ok _) c29 2000 [.cell 4 24] Tryz.func29 rfl (by rfl) rfl (by kernel_rfl) ?_
  unfold Tryz.f29
  simp (config := {implicitDefEqProofs := false, maxSteps := 4000000}) (disch := omega) only [push_cast, c29, Nat.reduceAdd, Nat.reduceSub, Nat.reduceMul, Nat.reduceBEq, Int.reduceToNat, Int.reduceNeg, Int.reduceLE, Int.reduceLT, Int.reduceBEq, Int.reduceBNe, Int.reduceEq, Bool.not_true, Bool.not_false, eq_self, reduceCtorEq]
  refine ⟨by omega, ?_⟩
  refine awp_upto (tyP_ok _) c29 2000 [1, 2, 4, 5, 6] (a.length) (fun _ => True) (fun i => ⟨50, [(1, .pay (.ints .i64 nm) z'), (2, .fref [.pay (.rows a) z]), (4, .ref 0 0), (5, .ref 1 0), (6, .int .i64 i)], [.box [.lit (.slice none 0 0)], .box [.own 2], .arr (.rows (rowsOf a.length (renF a nm i))) ⟨25, false⟩]⟩) (by kernel_rfl) ?_ ?_ ?_
  · rw [renF_zero, ← rowsOf_nil]; simp (config := {implicitDefEqProofs := false, maxSteps := 4000000}) (disch := omega) only [push_cast, c29, Nat.reduceAdd, Nat.reduceSub, Nat.reduceMul, Nat.reduceBEq, Int.reduceToNat, Int.reduceNeg, Int.reduceLE, Int.reduceLT, Int.reduceBEq, Int.reduceBNe, Int.reduceEq, Bool.not_true, Bool.not_false, eq_self, reduceCtorEq]
  · trivial
  intro i hi _
  simp (config := {implicitDefEqProofs := false, maxSteps := 4000000}) (disch := omega) only [push_cast, c29, Nat.reduceAdd, Nat.reduceSub, Nat.reduceMul, Nat.reduceBEq, Int.reduceToNat, Int.reduceNeg, Int.reduceLE, Int.reduceLT, Int.reduceBEq, Int.reduceBNe, Int.reduceEq, Bool.not_true, Bool.not_false, eq_self, reduceCtorEq]
  refine ⟨fun hlt => ?_, fun hge => by rw [show i = a.length by omega]⟩
  have hrow := hV.row _ (getD_mem' hlt)
  have hni := hP.2.1 _ (getD_mem (show i < nm.length by rw [hP.1]; exact hlt))
  have hr0 := hrow.1
  refine awp_upto (tyP_ok _) c29 2000 [1, 2, 4, 5, 6, 7, 8] ((a.getD 0 []).length) (fun _ => True) (fun k => ⟨50, [(1, .pay (.ints .i64 nm) z'), (2, .fref [.pay (.rows a) z]), (4, .ref 0 0), (5, .ref 1 0), (6, .int .i64 i), (7, .own 2), (8, .int .i64 k)], [.box [.lit (.slice none 0 0)], .box [.own 3], .arr (.ints .i64 (((a.getD i []).take k).map fun t => nm.getD t.toNat 0)) ⟨3, true⟩, .arr (.rows (rowsOf a.length (renF a nm i))) ⟨25, false⟩]⟩) (by kernel_rfl) ?_ ?_ ?_
  · rw [List.take_zero, List.map_nil]; simp (config := {implicitDefEqProofs := false, maxSteps := 4000000}) (disch := omega) only [push_cast, c29, Nat.reduceAdd, Nat.reduceSub, Nat.reduceMul, Nat.reduceBEq, Int.reduceToNat, Int.reduceNeg, Int.reduceLE, Int.reduceLT, Int.reduceBEq, Int.reduceBNe, Int.reduceEq, Bool.not_true, Bool.not_false, eq_self, reduceCtorEq]
  · trivial
  intro k hk _
  simp (config := {implicitDefEqProofs := false, maxSteps := 4000000}) (disch := omega) only [push_cast, c29, rowsOf_len, Nat.reduceAdd, Nat.reduceSub, Nat.reduceMul, Nat.reduceBEq, Int.reduceToNat, Int.reduceNeg, Int.reduceLE, Int.reduceLT, Int.reduceBEq, Int.reduceBNe, Int.reduceEq, Bool.not_true, Bool.not_false, eq_self, reduceCtorEq]
  refine callW_eq _ _ (f44 a z (by omega)) ?_
  simp (config := {implicitDefEqProofs := false, maxSteps := 4000000}) (disch := omega) only [push_cast, c29, Nat.reduceAdd, Nat.reduceSub, Nat.reduceMul, Nat.reduceBEq, Int.reduceToNat, Int.reduceNeg, Int.reduceLE, Int.reduceLT, Int.reduceBEq, Int.reduceBNe, Int.reduceEq, Bool.not_true, Bool.not_false, eq_self, reduceCtorEq]
  refine ⟨fun hlk => ?_, fun hge => ?_⟩
  · have hlk2 : k < (a.getD i []).length := by omega
    have hx := hrow.2 _ (getD_mem hlk2)
    refine ⟨hlt, hlk2, by omega, ?_, hlk, (map_take_succ hlk2).symm⟩
    simp; omega
  · rw [List.take_of_length_le (by omega), fresh_set (renF_fresh hP hlt), rowsOf_len, renF_succ _ _ _ hni.1]
    exact ⟨by omega, hni, hlt, rfl⟩
/- mizmaze/mizmazeref01.Power -/
def c31 : VCfg := ⟨⟨[12], [], [], [0, 1, 2, 4, 5, 6, 7, 8, 17, 29]⟩, [(5, (.op 0 .loose (.op 1 .loose (.op 2 .loose (.op 3 .loose (.op 4 .loose (.op 5 .eff (.op 6 .loose .nil)))))))), (9, (.op 0 .strict (.op 2 .strict (.op 3 .strict (.op 5 .strict (.op 8 .strict (.op 9 .strict (.op 10 .strict (.op 11 .strict (.alt (.op 1 .eff (.alt (.op 4 .eff (.op 6 .strict (.op 7 .loose (.op 12 .eff (.op 13 .eff (.op 14 .loose (.op 15 .eff .nil))))))) (.op 12 .eff (.op 4 .eff (.op 6 .strict (.op 7 .loose (.op 13 .eff (.op 14 .loose (.op 15 .eff .nil))))))))) (.alt (.op 4 .eff (.op 6 .strict (.op 7 .loose (.alt (.op 1 .eff (.op 12 .eff (.op 13 .eff (.op 14 .loose (.op 15 .eff .nil))))) (.op 12 .eff (.alt (.op 1 .eff (.op 13 .eff (.op 14 .loose (.op 15 .eff .nil)))) (.op 13 .eff (.op 1 .eff (.op 14 .loose (.op 15 .eff .nil)))))))))) (.op 12 .eff (.alt (.op 1 .eff (.op 4 .eff (.op 6 .strict (.op 7 .loose (.op 13 .eff (.op 14 .loose (.op 15 .eff .nil))))))) (.op 4 .eff (.op 6 .strict (.op 7 .loose (.alt (.op 1 .eff (.op 13 .eff (.op 14 .loose (.op 15 .eff .nil)))) (.op 13 .eff (.op 1 .eff (.op 14 .loose (.op 15 .eff .nil)))))))))))))))))))))], [], []⟩
set_option maxHeartbeats 8000000 in
theorem f31 (a : List (List Int)) (z z' : Bool) (words : List (List Int)) (hv : vldB a = true) (hW : wordsB (a.getD 0 []).length words = true) :
    ACall Tryz.prog 31 [.agg [.pay (.rows a) z], .pay (.rows words) z'] (fun r objs => r = .agg [.pay (.rows (powR a words a.length (fun _ => words.length))) false] ∧ objs = []) := by
  suffices h : ACall Tryz.prog 31 [.agg [.pay (.rows a) z], .pay (.rows words) z'] (fun r objs => r = .agg [.mh 0 .own] ∧ objs = [.nest (powR a words a.length (fun _ => words.length)) none 0 ⟨25, false⟩ 3 false]) by
    refine h.frz ?_
    rintro r objs ⟨rfl, rfl⟩
    exact ⟨[0], _, 1, rfl, rfl, rfl⟩
  have hV := vldB_iff.1 hv
  have hn := hV.n2
  have hn0 := hV.n1
  obtain ⟨hb1, hb2, hWw⟩ := wordsB_iff.1 hW
  refine acall_intro (tyP_ok _) c31 2000 [.cell 4 24] Tryz.func31 rfl (by rfl) rfl (by kernel_rfl) ?_
  unfold Tryz.f31
  simp (config := {implicitDefEqProofs := false, maxSteps := 4000000}) (disch := omega) only [push_cast, c31, Nat.reduceAdd, Nat.reduceSub, Nat.reduceMul, Nat.reduceBEq, Int.reduceToNat, Int.reduceNeg, Int.reduceLE, Int.reduceLT, Int.reduceBEq, Int.reduceBNe, Int.reduceEq, Bool.not_true, Bool.not_false, eq_self, reduceCtorEq]
  refine ⟨by omega, ?_⟩
  refine awp_upto (tyP_ok _) c31 2000 [1, 2, 4, 5, 6] (words.length) (fun _ => True) (fun i => ⟨48, [(1, .pay (.rows words) z'), (2, .fref [.pay (.rows a) z]), (4, .ref 0 0), (5, .ref 1 0), (6, .int .i64 i)], [.box [.lit (.slice none 0 0)], .box [.mh 2 .own], .nest (powR a words a.length (fun _ => i)) none 0 ⟨25, false⟩ 3 false]⟩) (by kernel_rfl) ?_ ?_ ?_
  · rw [powR_zero a words]; simp (config := {implicitDefEqProofs := false, maxSteps := 4000000}) (disch := omega) only [push_cast, c31, Nat.reduceAdd, Nat.reduceSub, Nat.reduceMul, Nat.reduceBEq, Int.reduceToNat, Int.reduceNeg, Int.reduceLE, Int.reduceLT, Int.reduceBEq, Int.reduceBNe, Int.reduceEq, Bool.not_true, Bool.not_false, eq_self, reduceCtorEq]
  · trivial
  intro i hi _
  simp (config := {implicitDefEqProofs := false, maxSteps := 4000000}) (disch := omega) only [push_cast, c31, Nat.reduceAdd, Nat.reduceSub, Nat.reduceMul, Nat.reduceBEq, Int.reduceToNat, Int.reduceNeg, Int.reduceLE, Int.reduceLT, Int.reduceBEq, Int.reduceBNe, Int.reduceEq, Bool.not_true, Bool.not_false, eq_self, reduceCtorEq]
  refine ⟨fun hlt => ⟨hlt, ?_⟩, fun hge => by rw [show i = words.length by omega]⟩
  have hw1 := wordB_iff.1 (hWw _ (getD_mem' hlt))
  have hE := (f50 a z false _ (by omega) _ hV hw1.2).frz (Q' := fun r objs => r = .pay (.ints .i64 (endsL a (words.getD i []) a.length)) true ∧ objs = []) (by
    rintro r objs ⟨rfl, rfl⟩
    exact ⟨[0], _, 1, rfl, rfl, rfl⟩)
  refine callW_eq _ _ (hE) ?_
  simp (config := {implicitDefEqProofs := false, maxSteps := 4000000}) (disch := omega) only [push_cast, c31, Nat.reduceAdd, Nat.reduceSub, Nat.reduceMul, Nat.reduceBEq, Int.reduceToNat, Int.reduceNeg, Int.reduceLE, Int.reduceLT, Int.reduceBEq, Int.reduceBNe, Int.reduceEq, Bool.not_true, Bool.not_false, eq_self, reduceCtorEq]
  refine awp_upto (tyP_ok _) c31 2000 [1, 2, 4, 5, 6, 7, 8] (a.length) (fun _ => True) (fun k => ⟨48, [(1, .pay (.rows words) z'), (2, .fref [.pay (.rows a) z]), (4, .ref 0 0), (5, .ref 1 0), (6, .int .i64 i), (7, .pay (.ints .i64 (endsL a (words.getD i []) a.length)) true), (8, .int .i64 k)], [.box [.lit (.slice none 0 0)], .box [.mh 2 .own], .nest (powR a words a.length (fun c => if c < k then i + 1 else i)) none 0 ⟨25, false⟩ 3 false]⟩) (by kernel_rfl) ?_ ?_ ?_
  · simp only [Nat.not_lt_zero, if_false]; simp (config := {implicitDefEqProofs := false, maxSteps := 4000000}) (disch := omega) only [push_cast, c31, Nat.reduceAdd, Nat.reduceSub, Nat.reduceMul, Nat.reduceBEq, Int.reduceToNat, Int.reduceNeg, Int.reduceLE, Int.reduceLT, Int.reduceBEq, Int.reduceBNe, Int.reduceEq, Bool.not_true, Bool.not_false, eq_self, reduceCtorEq]
  · trivial
  intro k hk _
  simp (config := {implicitDefEqProofs := false, maxSteps := 4000000}) (disch := omega) only [push_cast, c31, powR_len, endsL_len, Nat.reduceAdd, Nat.reduceSub, Nat.reduceMul, Nat.reduceBEq, Int.reduceToNat, Int.reduceNeg, Int.reduceLE, Int.reduceLT, Int.reduceBEq, Int.reduceBNe, Int.reduceEq, Bool.not_true, Bool.not_false, eq_self, reduceCtorEq]
  refine ⟨fun hlk => ?_, fun hge => ⟨hlt, powR_congr fun c hc => by rw [if_pos (by omega)]⟩⟩
  have hSet := powR_set (a := a) (words := words) (n := a.length) (m := fun c => if c < k then i + 1 else i) (m' := fun c => if c < k + 1 then i + 1 else i) (j := k) hlk (by simpa using hlt) (fun c _ => by
    by_cases e : c = k
    · subst e; simp
    · by_cases e2 : c < k
      · rw [if_neg e, if_pos (by omega), if_pos e2]
      · rw [if_neg e, if_neg (by omega), if_neg e2])
  simp only [Nat.lt_irrefl, if_false] at hSet
  rw [endsL_getN hlk]
  refine ⟨hlk, hlk, ?_, hlk, hlk, hSet⟩
  rw [powR_getD hlk]; simp; omega
end Go.AM
end

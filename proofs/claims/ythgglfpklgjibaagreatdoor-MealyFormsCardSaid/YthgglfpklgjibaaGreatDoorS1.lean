/-
  Contracts of the package auto's functions, of Valid on both sides and of the chapter's small functions; conditions in each statement.
-/
import Derived.Test.YthgglfpklgjibaaGreatDoorF4
import Derived.Test.YthgglfpklgjibaaGreatDoorProg
import Derived.KernelRfl
import Derived.Test.YthgglfpklgjibaaGreatDoorP1
import Derived.Test.YthgglfpklgjibaaGreatDoorP2
import Derived.Test.YthgglfpklgjibaaGreatDoorF5
set_option linter.unusedVariables false
set_option linter.unusedSimpArgs false
set_option linter.unusedSectionVars false

/-! text UeT -/
section
namespace Go.AM
open Go Go.Proofs
theorem t3 : tyP Tryz.prog 3 = some ⟨1, 8, .int .i64, .int .i64 0⟩ := by kernel_rfl
theorem t4 : tyP Tryz.prog 4 = some ⟨1, 1, .bool, .bool false⟩ := by kernel_rfl
theorem t9 : tyP Tryz.prog 9 = some ⟨1, 16, .str, .str ByteArray.empty⟩ := by kernel_rfl
theorem t22 : tyP Tryz.prog 22 = some ⟨1, 24, .slice 25, .lit (.slice none 0 0)⟩ := by kernel_rfl
theorem t24 : tyP Tryz.prog 24 = some ⟨2, 48, .struct [(0, 22), (1, 22)], .agg [.lit (.slice none 0 0), .lit (.slice none 0 0)]⟩ := by kernel_rfl
theorem t25 : tyP Tryz.prog 25 = some ⟨1, 24, .slice 3, .lit (.slice none 0 0)⟩ := by kernel_rfl
theorem t28 : tyP Tryz.prog 28 = some ⟨1, 8, .int .i64, .int .i64 0⟩ := by kernel_rfl
theorem t51 : tyP Tryz.prog 51 = some ⟨1, 24, .struct [(0, 22)], .agg [.lit (.slice none 0 0)]⟩ := by kernel_rfl
theorem t61 : tyP Tryz.prog 61 = some ⟨1, 24, .slice 4, .lit (.slice none 0 0)⟩ := by kernel_rfl
theorem t63 : tyP Tryz.prog 63 = some ⟨1, 24, .slice 9, .lit (.slice none 0 0)⟩ := by kernel_rfl
theorem t68 : tyP Tryz.prog 68 = some ⟨1, 16, .iface, .lit .nilIface⟩ := by kernel_rfl
theorem t77 : tyP Tryz.prog 77 = some ⟨1, 8, .ptr 79, .lit (.pointer none)⟩ := by kernel_rfl
theorem t79 : tyP Tryz.prog 79 = some ⟨3, 56, .struct [(0, 24), (2, 3)], .agg [.lit (.slice none 0 0), .lit (.slice none 0 0), .int .i64 0]⟩ := by kernel_rfl
theorem t94 : tyP Tryz.prog 94 = some ⟨2, 16, .array 2 3, .agg [.int .i64 0, .int .i64 0]⟩ := by kernel_rfl
theorem t96 : tyP Tryz.prog 96 = some ⟨4, 32, .struct [(0, 94), (2, 3), (3, 3)], .agg [.int .i64 0, .int .i64 0, .int .i64 0, .int .i64 0]⟩ := by kernel_rfl
theorem t97 : tyP Tryz.prog 97 = some ⟨1, 24, .slice 96, .lit (.slice none 0 0)⟩ := by kernel_rfl
theorem t98 : tyP Tryz.prog 98 = some ⟨1, 8, .map 94 4, .lit (.map none)⟩ := by kernel_rfl
theorem t128 : tyP Tryz.prog 128 = some ⟨1, 8, .map 130 3, .lit (.map none)⟩ := by kernel_rfl
theorem t130 : tyP Tryz.prog 130 = some ⟨13, 104, .array 13 3, .agg [.int .i64 0, .int .i64 0, .int .i64 0, .int .i64 0, .int .i64 0, .int .i64 0, .int .i64 0, .int .i64 0, .int .i64 0, .int .i64 0, .int .i64 0, .int .i64 0, .int .i64 0]⟩ := by kernel_rfl
attribute [push_cast] t3 t4 t9 t22 t24 t25 t28 t51 t61 t63 t68 t77 t79 t94 t96 t97 t98 t128 t130
end Go.AM
end

/-! text Ue1 -/
section
namespace Go.AM
open Go Go.Proofs

/- mizmaze/auto.Letters -/
def c43 : VCfg := ⟨⟨[], [], [], [0, 1, 2]⟩, [], [], []⟩
theorem f43 (a : List (List Int)) (z : Bool) (h : 0 < a.length) : ACall Tryz.prog 43 [.agg [.pay (.rows a) z]] (fun r objs => r = .int .i64 (a.getD 0 []).length ∧ objs = []) := by
  refine acall_intro (tyP_ok _) c43 2000 [.tmp 2] Tryz.func43 rfl (by rfl) rfl (by kernel_rfl) ?_
  unfold Tryz.f43
  simp (config := {implicitDefEqProofs := false, maxSteps := 4000000}) (disch := omega) only [push_cast, c43, Nat.reduceAdd, Nat.reduceSub, Nat.reduceMul, Nat.reduceBEq, Int.reduceToNat, Int.reduceNeg, Int.reduceLE, Int.reduceLT, Int.reduceBEq, Int.reduceBNe, Int.reduceEq, Bool.not_true, Bool.not_false, eq_self, reduceCtorEq]
  exact h
/- mizmaze/auto.within[[]int]$1 -/
def c65 : VCfg := ⟨⟨[], [], [], [0, 1, 3]⟩, [], [], []⟩
theorem f65 (x n : Int) : ACall Tryz.prog 65 [.int .i64 x, .fref [.int .i64 n]] (fun r objs => r = .bool (decide (x < 0 ∨ n ≤ x)) ∧ objs = []) := by
  refine acall_intro (tyP_ok _) c65 2000 [.tmp 3] Tryz.func65 rfl (by rfl) rfl (by kernel_rfl) ?_
  unfold Tryz.f65
  simp (config := {implicitDefEqProofs := false, maxSteps := 4000000}) (disch := omega) only [push_cast, c65, Nat.reduceAdd, Nat.reduceSub, Nat.reduceMul, Nat.reduceBEq, Int.reduceToNat, Int.reduceNeg, Int.reduceLE, Int.reduceLT, Int.reduceBEq, Int.reduceBNe, Int.reduceEq, Bool.not_true, Bool.not_false, eq_self, reduceCtorEq]
  exact ⟨fun h => by simp [h], fun h => by simp [show ¬ x < 0 by omega]⟩
/- slices.IndexFunc[[]int,int] -/
def c51 : VCfg := ⟨⟨[], [], [], [0, 1, 4, 5, 7, 8, 9, 16]⟩, [], [], []⟩
theorem f51 (l : List Int) (z : Bool) (hl : l.length ≤ 4611686018427387904) (g : FuncId) (caps : List AV) (p : Int → Bool) (hg : ∀ x, ACall Tryz.prog g (.int .i64 x :: caps) (fun r objs => r = .bool (p x) ∧ objs = [])) (hc : NoH caps) :
    ACall Tryz.prog 51 [.pay (.ints .i64 l) z, .clo g caps] (fun r objs => ∃ n : Int, (0 ≤ n ↔ ∃ x ∈ l, p x = true) ∧ r = .int .i64 n ∧ objs = []) := by
  refine acall_intro (tyP_ok _) c51 2000 [.tmp 4] Tryz.func51 rfl (by rfl) rfl (by kernel_rfl) ?_
  unfold Tryz.f51
  simp (config := {implicitDefEqProofs := false, maxSteps := 4000000}) (disch := omega) only [push_cast, c51, Nat.reduceAdd, Nat.reduceSub, Nat.reduceMul, Nat.reduceBEq, Int.reduceToNat, Int.reduceNeg, Int.reduceLE, Int.reduceLT, Int.reduceBEq, Int.reduceBNe, Int.reduceEq, Bool.not_true, Bool.not_false, eq_self, reduceCtorEq]
  refine awp_upto (tyP_ok _) c51 2000 [0, 1, 4, 7, 8] (l.length) (fun i => ∀ j, j < i → p (l.getD j 0) = false) (fun i => ⟨19, [(0, .pay (.ints .i64 l) z), (1, .clo g caps), (4, .int .i64 0), (7, .int .i64 l.length), (8, .int .i64 i)], []⟩) (by kernel_rfl) ?_ ?_ ?_
  · simp (config := {implicitDefEqProofs := false, maxSteps := 4000000}) (disch := omega) only [push_cast, c51, hc.hs, hc.mp, Nat.reduceAdd, Nat.reduceSub, Nat.reduceMul, Nat.reduceBEq, Int.reduceToNat, Int.reduceNeg, Int.reduceLE, Int.reduceLT, Int.reduceBEq, Int.reduceBNe, Int.reduceEq, Bool.not_true, Bool.not_false, eq_self, reduceCtorEq]
  · exact fun j hj => by omega
  intro i hi hr
  simp (config := {implicitDefEqProofs := false, maxSteps := 4000000}) (disch := omega) only [push_cast, c51, hc.hs, hc.mp, hc.no3, Nat.reduceAdd, Nat.reduceSub, Nat.reduceMul, Nat.reduceBEq, Int.reduceToNat, Int.reduceNeg, Int.reduceLE, Int.reduceLT, Int.reduceBEq, Int.reduceBNe, Int.reduceEq, Bool.not_true, Bool.not_false, eq_self, reduceCtorEq]
  refine ⟨fun hlt => ⟨hlt, ?_⟩, fun hge => ⟨-1, ?_, rfl⟩⟩
  · refine callW_eq _ _ (hg _) ?_
    simp (config := {implicitDefEqProofs := false, maxSteps := 4000000}) (disch := omega) only [push_cast, c51, hc.hs, hc.mp, hc.no3, Nat.reduceAdd, Nat.reduceSub, Nat.reduceMul, Nat.reduceBEq, Int.reduceToNat, Int.reduceNeg, Int.reduceLE, Int.reduceLT, Int.reduceBEq, Int.reduceBNe, Int.reduceEq, Bool.not_true, Bool.not_false, eq_self, reduceCtorEq]
    refine ⟨fun h => ⟨i, ⟨fun _ => ⟨_, getD_mem hlt, h⟩, fun _ => by omega⟩, rfl⟩, fun h => ⟨hlt, fun j hj => ?_⟩⟩
    rcases Nat.lt_succ_iff_lt_or_eq.1 hj with hj | rfl
    · exact hr j hj
    · exact h
  · refine ⟨fun h => by omega, fun ⟨x, hx, h⟩ => ?_⟩
    obtain ⟨j, hj, rfl⟩ := List.getElem_of_mem hx
    have := hr j (by omega)
    have e : l.getD j 0 = l[j] := by simp [hj]
    rw [e, h] at this
    cases this
/- slices.ContainsFunc[[]int,int] -/
def c31 : VCfg := ⟨⟨[], [], [], [0, 1, 4]⟩, [], [], []⟩
theorem f31 (l : List Int) (z : Bool) (hl : l.length ≤ 4611686018427387904) (g : FuncId) (caps : List AV) (p : Int → Bool) (hg : ∀ x, ACall Tryz.prog g (.int .i64 x :: caps) (fun r objs => r = .bool (p x) ∧ objs = [])) (hc : NoH caps) :
    ACall Tryz.prog 31 [.pay (.ints .i64 l) z, .clo g caps] (fun r objs => r = .bool (l.any p) ∧ objs = []) := by
  refine acall_intro (tyP_ok _) c31 2000 [.tmp 4] Tryz.func31 rfl (by rfl) rfl (by kernel_rfl) ?_
  unfold Tryz.f31
  simp (config := {implicitDefEqProofs := false, maxSteps := 4000000}) (disch := omega) only [push_cast, c31, hc.hs, hc.mp, hc.no2, hc.no3, Nat.reduceAdd, Nat.reduceSub, Nat.reduceMul, Nat.reduceBEq, Int.reduceToNat, Int.reduceNeg, Int.reduceLE, Int.reduceLT, Int.reduceBEq, Int.reduceBNe, Int.reduceEq, Bool.not_true, Bool.not_false, eq_self, reduceCtorEq]
  refine callW_rel (f51 l z hl g caps p hg hc) ?_
  rintro R O ⟨n, hn, rfl, rfl⟩
  simp (config := {implicitDefEqProofs := false, maxSteps := 4000000}) (disch := omega) only [push_cast, c31, hc.hs, hc.mp, hc.no2, hc.no3, Nat.reduceAdd, Nat.reduceSub, Nat.reduceMul, Nat.reduceBEq, Int.reduceToNat, Int.reduceNeg, Int.reduceLE, Int.reduceLT, Int.reduceBEq, Int.reduceBNe, Int.reduceEq, Bool.not_true, Bool.not_false, eq_self, reduceCtorEq]
  rw [Bool.eq_iff_iff, decide_eq_true_eq, hn, List.any_eq_true]
/- mizmaze/auto.within[[]int] -/
def c42 : VCfg := ⟨⟨[], [], [], [0, 1, 3, 4]⟩, [], [], []⟩
theorem f42 (l : List Int) (z : Bool) (n : Int) (hl : l.length ≤ 4611686018427387904) :
    ACall Tryz.prog 42 [.pay (.ints .i64 l) z, .int .i64 n] (fun r objs => r = .bool (belowB l n) ∧ objs = []) := by
  refine acall_intro (tyP_ok _) c42 2000 [.tmp 4] Tryz.func42 rfl (by rfl) rfl (by kernel_rfl) ?_
  unfold Tryz.f42
  simp (config := {implicitDefEqProofs := false, maxSteps := 4000000}) (disch := omega) only [push_cast, c42, Nat.reduceAdd, Nat.reduceSub, Nat.reduceMul, Nat.reduceBEq, Int.reduceToNat, Int.reduceNeg, Int.reduceLE, Int.reduceLT, Int.reduceBEq, Int.reduceBNe, Int.reduceEq, Bool.not_true, Bool.not_false, eq_self, reduceCtorEq]
  refine callW_eq _ _ (f31 l z hl 65 [.fref [.int .i64 n]] (fun x => decide (x < 0 ∨ n ≤ x)) (fun x => f65 x n) (NoH.of rfl rfl)) ?_
  simp (config := {implicitDefEqProofs := false, maxSteps := 4000000}) (disch := omega) only [push_cast, c42, Nat.reduceAdd, Nat.reduceSub, Nat.reduceMul, Nat.reduceBEq, Int.reduceToNat, Int.reduceNeg, Int.reduceLE, Int.reduceLT, Int.reduceBEq, Int.reduceBNe, Int.reduceEq, Bool.not_true, Bool.not_false, eq_self, reduceCtorEq]
  rw [Bool.eq_iff_iff]
  simp [belowB, List.all_eq_true, List.any_eq_false]
/- slices.IndexFunc[[][]int,[]int] -/
def c50 : VCfg := ⟨⟨[], [], [], [0, 1, 4, 5, 7, 8, 9, 16]⟩, [], [], []⟩
theorem f50 (l : List (List Int)) (z : Bool) (hl : l.length ≤ 4611686018427387904) (g : FuncId) (caps : List AV) (p : List Int → Bool) (hg : ∀ x, x ∈ l → ACall Tryz.prog g (.pay (.ints .i64 x) false :: caps) (fun r objs => r = .bool (p x) ∧ objs = [])) (hc : NoH caps) :
    ACall Tryz.prog 50 [.pay (.rows l) z, .clo g caps] (fun r objs => ∃ n : Int, (0 ≤ n ↔ ∃ x ∈ l, p x = true) ∧ r = .int .i64 n ∧ objs = []) := by
  refine acall_intro (tyP_ok _) c50 2000 [.tmp 4] Tryz.func50 rfl (by rfl) rfl (by kernel_rfl) ?_
  unfold Tryz.f50
  simp (config := {implicitDefEqProofs := false, maxSteps := 4000000}) (disch := omega) only [push_cast, c50, Nat.reduceAdd, Nat.reduceSub, Nat.reduceMul, Nat.reduceBEq, Int.reduceToNat, Int.reduceNeg, Int.reduceLE, Int.reduceLT, Int.reduceBEq, Int.reduceBNe, Int.reduceEq, Bool.not_true, Bool.not_false, eq_self, reduceCtorEq]
  refine awp_upto (tyP_ok _) c50 2000 [0, 1, 4, 7, 8] (l.length) (fun i => ∀ j, j < i → p (l.getD j []) = false) (fun i => ⟨19, [(0, .pay (.rows l) z), (1, .clo g caps), (4, .int .i64 0), (7, .int .i64 l.length), (8, .int .i64 i)], []⟩) (by kernel_rfl) ?_ ?_ ?_
  · simp (config := {implicitDefEqProofs := false, maxSteps := 4000000}) (disch := omega) only [push_cast, c50, hc.hs, hc.mp, Nat.reduceAdd, Nat.reduceSub, Nat.reduceMul, Nat.reduceBEq, Int.reduceToNat, Int.reduceNeg, Int.reduceLE, Int.reduceLT, Int.reduceBEq, Int.reduceBNe, Int.reduceEq, Bool.not_true, Bool.not_false, eq_self, reduceCtorEq]
  · exact fun j hj => by omega
  intro i hi hr
  simp (config := {implicitDefEqProofs := false, maxSteps := 4000000}) (disch := omega) only [push_cast, c50, hc.hs, hc.mp, hc.no3, Nat.reduceAdd, Nat.reduceSub, Nat.reduceMul, Nat.reduceBEq, Int.reduceToNat, Int.reduceNeg, Int.reduceLE, Int.reduceLT, Int.reduceBEq, Int.reduceBNe, Int.reduceEq, Bool.not_true, Bool.not_false, eq_self, reduceCtorEq]
  refine ⟨fun hlt => ⟨hlt, ?_⟩, fun hge => ⟨-1, ?_, rfl⟩⟩
  · refine callW_eq _ _ (hg _ (getD_mem' hlt)) ?_
    simp (config := {implicitDefEqProofs := false, maxSteps := 4000000}) (disch := omega) only [push_cast, c50, hc.hs, hc.mp, hc.no3, Nat.reduceAdd, Nat.reduceSub, Nat.reduceMul, Nat.reduceBEq, Int.reduceToNat, Int.reduceNeg, Int.reduceLE, Int.reduceLT, Int.reduceBEq, Int.reduceBNe, Int.reduceEq, Bool.not_true, Bool.not_false, eq_self, reduceCtorEq]
    refine ⟨fun h => ⟨i, ⟨fun _ => ⟨_, getD_mem' hlt, h⟩, fun _ => by omega⟩, rfl⟩, fun h => ⟨hlt, fun j hj => ?_⟩⟩
    rcases Nat.lt_succ_iff_lt_or_eq.1 hj with hj | rfl
    · exact hr j hj
    · exact h
  · refine ⟨fun h => by omega, fun ⟨x, hx, h⟩ => ?_⟩
    obtain ⟨j, hj, rfl⟩ := List.getElem_of_mem hx
    have := hr j (by omega)
    have e : l.getD j [] = l[j] := by simp [hj]
    rw [e, h] at this
    cases this
/- slices.ContainsFunc[[][]int,[]int] -/
def c29 : VCfg := ⟨⟨[], [], [], [0, 1, 4]⟩, [], [], []⟩
theorem f29 (l : List (List Int)) (z : Bool) (hl : l.length ≤ 4611686018427387904) (g : FuncId) (caps : List AV) (p : List Int → Bool) (hg : ∀ x, x ∈ l → ACall Tryz.prog g (.pay (.ints .i64 x) false :: caps) (fun r objs => r = .bool (p x) ∧ objs = [])) (hc : NoH caps) :
    ACall Tryz.prog 29 [.pay (.rows l) z, .clo g caps] (fun r objs => r = .bool (l.any p) ∧ objs = []) := by
  refine acall_intro (tyP_ok _) c29 2000 [.tmp 4] Tryz.func29 rfl (by rfl) rfl (by kernel_rfl) ?_
  unfold Tryz.f29
  simp (config := {implicitDefEqProofs := false, maxSteps := 4000000}) (disch := omega) only [push_cast, c29, hc.hs, hc.mp, hc.no2, hc.no3, Nat.reduceAdd, Nat.reduceSub, Nat.reduceMul, Nat.reduceBEq, Int.reduceToNat, Int.reduceNeg, Int.reduceLE, Int.reduceLT, Int.reduceBEq, Int.reduceBNe, Int.reduceEq, Bool.not_true, Bool.not_false, eq_self, reduceCtorEq]
  refine callW_rel (f50 l z hl g caps p hg hc) ?_
  rintro R O ⟨n, hn, rfl, rfl⟩
  simp (config := {implicitDefEqProofs := false, maxSteps := 4000000}) (disch := omega) only [push_cast, c29, hc.hs, hc.mp, hc.no2, hc.no3, Nat.reduceAdd, Nat.reduceSub, Nat.reduceMul, Nat.reduceBEq, Int.reduceToNat, Int.reduceNeg, Int.reduceLE, Int.reduceLT, Int.reduceBEq, Int.reduceBNe, Int.reduceEq, Bool.not_true, Bool.not_false, eq_self, reduceCtorEq]
  rw [Bool.eq_iff_iff, decide_eq_true_eq, hn, List.any_eq_true]
/- mizmaze/auto.Valid$1 -/
def c49 : VCfg := ⟨⟨[], [], [], [0, 1, 2, 4]⟩, [], [], []⟩
theorem f49 (row : List Int) (z z' : Bool) (k : Int) (a : List (List Int)) (hl : row.length ≤ 4611686018427387904) :
    ACall Tryz.prog 49 [.pay (.ints .i64 row) z, .fref [.int .i64 k], .fref [.pay (.rows a) z']] (fun r objs => r = .bool (!(decide ((row.length : Int) = k) && belowB row a.length)) ∧ objs = []) := by
  refine acall_intro (tyP_ok _) c49 2000 [.tmp 4] Tryz.func49 rfl (by rfl) rfl (by kernel_rfl) ?_
  unfold Tryz.f49
  simp (config := {implicitDefEqProofs := false, maxSteps := 4000000}) (disch := omega) only [push_cast, c49, Nat.reduceAdd, Nat.reduceSub, Nat.reduceMul, Nat.reduceBEq, Int.reduceToNat, Int.reduceNeg, Int.reduceLE, Int.reduceLT, Int.reduceBEq, Int.reduceBNe, Int.reduceEq, Bool.not_true, Bool.not_false, eq_self, reduceCtorEq]
  refine ⟨fun h => by simp [h], fun h => ?_⟩
  refine callW_eq _ _ (f42 row z a.length hl) ?_
  simp (config := {implicitDefEqProofs := false, maxSteps := 4000000}) (disch := omega) only [push_cast, c49, Nat.reduceAdd, Nat.reduceSub, Nat.reduceMul, Nat.reduceBEq, Int.reduceToNat, Int.reduceNeg, Int.reduceLE, Int.reduceLT, Int.reduceBEq, Int.reduceBNe, Int.reduceEq, Bool.not_true, Bool.not_false, eq_self, reduceCtorEq]
  simp [h]
/- mizmaze/auto.Valid -/
def c28 : VCfg := ⟨⟨[], [], [], [0, 1, 2, 3, 13]⟩, [], [], []⟩
theorem f28 (a : List (List Int)) (z : Bool) (hl : a.length ≤ 4611686018427387904) (hl2 : ∀ r ∈ a, r.length ≤ 4611686018427387904) :
    ACall Tryz.prog 28 [.agg [.pay (.rows a) z]] (fun r objs => r = .bool (vldB a) ∧ objs = []) := by
  refine acall_intro (tyP_ok _) c28 2000 [.tmp 2] Tryz.func28 rfl (by rfl) rfl (by kernel_rfl) ?_
  unfold Tryz.f28
  simp (config := {implicitDefEqProofs := false, maxSteps := 4000000}) (disch := omega) only [push_cast, c28, Nat.reduceAdd, Nat.reduceSub, Nat.reduceMul, Nat.reduceBEq, Int.reduceToNat, Int.reduceNeg, Int.reduceLE, Int.reduceLT, Int.reduceBEq, Int.reduceBNe, Int.reduceEq, Bool.not_true, Bool.not_false, eq_self, reduceCtorEq]
  refine ⟨fun h => vldB_false fun hv => by have := hv.n1; omega, fun h => ⟨fun h2 => vldB_false fun hv => by have := hv.n2; omega, fun h2 => ⟨by omega, fun h3 => ⟨fun h4 => ?_, fun h4 => vldB_false fun hv => by have := hv.k2; omega⟩, fun h3 => vldB_false fun hv => by have := hv.k1; omega⟩⟩⟩
  refine callW_eq _ _ (f29 a z hl 49 _ (fun row => !(decide ((row.length : Int) = (a.getD 0 []).length) && belowB row a.length)) (fun x hx => f49 x false z _ a (hl2 x hx)) (NoH.of rfl rfl)) ?_
  simp (config := {implicitDefEqProofs := false, maxSteps := 4000000}) (disch := omega) only [push_cast, c28, Nat.reduceAdd, Nat.reduceSub, Nat.reduceMul, Nat.reduceBEq, Int.reduceToNat, Int.reduceNeg, Int.reduceLE, Int.reduceLT, Int.reduceBEq, Int.reduceBNe, Int.reduceEq, Bool.not_true, Bool.not_false, eq_self, reduceCtorEq]
  rw [Bool.eq_iff_iff, vldB_iff]
  simp only [Bool.not_eq_true', List.any_eq_false, Bool.not_eq_true', Bool.not_eq_false, Bool.not_eq_true]
  constructor
  · intro h5
    refine ⟨by omega, by omega, by omega, by omega, fun r hr => ?_⟩
    have := h5 r hr
    simp only [Bool.not_eq_false', Bool.and_eq_true, decide_eq_true_eq, belowB_iff] at this
    exact ⟨by omega, this.2⟩
  · intro hv r hr
    have := hv.row r hr
    simp only [Bool.not_eq_false', Bool.and_eq_true, decide_eq_true_eq, belowB_iff]
    exact ⟨by omega, this.2⟩
/- mizmaze/auto.Word -/
def c24 : VCfg := ⟨⟨[], [], [], [0, 1, 2, 4]⟩, [], [], []⟩
theorem f24 (a : List (List Int)) (z z' : Bool) (w : List Int) (ha : 0 < a.length) (hw : w.length ≤ 4611686018427387904) :
    ACall Tryz.prog 24 [.agg [.pay (.rows a) z], .pay (.ints .i64 w) z'] (fun r objs => r = .bool (wordB (a.getD 0 []).length w) ∧ objs = []) := by
  refine acall_intro (tyP_ok _) c24 2000 [.tmp 4] Tryz.func24 rfl (by rfl) rfl (by kernel_rfl) ?_
  unfold Tryz.f24
  simp (config := {implicitDefEqProofs := false, maxSteps := 4000000}) (disch := omega) only [push_cast, c24, Nat.reduceAdd, Nat.reduceSub, Nat.reduceMul, Nat.reduceBEq, Int.reduceToNat, Int.reduceNeg, Int.reduceLE, Int.reduceLT, Int.reduceBEq, Int.reduceBNe, Int.reduceEq, Bool.not_true, Bool.not_false, eq_self, reduceCtorEq]
  refine ⟨fun h => ?_, fun h => by simp [wordB, show ¬ w.length ≤ 40000 by omega]⟩
  refine callW_eq _ _ (f43 a z ha) ?_
  simp (config := {implicitDefEqProofs := false, maxSteps := 4000000}) (disch := omega) only [push_cast, c24, Nat.reduceAdd, Nat.reduceSub, Nat.reduceMul, Nat.reduceBEq, Int.reduceToNat, Int.reduceNeg, Int.reduceLE, Int.reduceLT, Int.reduceBEq, Int.reduceBNe, Int.reduceEq, Bool.not_true, Bool.not_false, eq_self, reduceCtorEq]
  refine callW_eq _ _ (f42 w z' _ hw) ?_
  simp (config := {implicitDefEqProofs := false, maxSteps := 4000000}) (disch := omega) only [push_cast, c24, Nat.reduceAdd, Nat.reduceSub, Nat.reduceMul, Nat.reduceBEq, Int.reduceToNat, Int.reduceNeg, Int.reduceLE, Int.reduceLT, Int.reduceBEq, Int.reduceBNe, Int.reduceEq, Bool.not_true, Bool.not_false, eq_self, reduceCtorEq]
  simp [wordB, show w.length ≤ 40000 by omega]
/- mizmaze/auto.State -/
def c22 : VCfg := ⟨⟨[], [], [], [0, 1, 2, 4]⟩, [], [], []⟩
theorem f22 (a : List (List Int)) (z : Bool) (s : Int) :
    ACall Tryz.prog 22 [.agg [.pay (.rows a) z], .int .i64 s] (fun r objs => r = .bool (decide (0 ≤ s ∧ s < a.length)) ∧ objs = []) := by
  refine acall_intro (tyP_ok _) c22 2000 [.tmp 4] Tryz.func22 rfl (by rfl) rfl (by kernel_rfl) ?_
  unfold Tryz.f22
  simp (config := {implicitDefEqProofs := false, maxSteps := 4000000}) (disch := omega) only [push_cast, c22, Nat.reduceAdd, Nat.reduceSub, Nat.reduceMul, Nat.reduceBEq, Int.reduceToNat, Int.reduceNeg, Int.reduceLE, Int.reduceLT, Int.reduceBEq, Int.reduceBNe, Int.reduceEq, Bool.not_true, Bool.not_false, eq_self, reduceCtorEq]
  exact ⟨fun h => by simp [h], fun h => by simp [show ¬ 0 ≤ s by omega]⟩
end Go.AM
end

/-! text Ue2 -/
section
namespace Go.AM
open Go Go.Proofs
/- mizmaze/mealy.Auto -/
def c23 : VCfg := ⟨⟨[], [], [], [0, 1, 2]⟩, [], [], []⟩
theorem f23 (N O : List (List Int)) (z z' : Bool) : ACall Tryz.prog 23 [.agg [.pay (.rows (N)) (z), .pay (.rows (O)) (z')]] (fun r objs => r = .agg [.pay (.rows N) z] ∧ objs = []) := by
  refine acall_intro (tyP_ok _) c23 2000 [.cell 2 51] Tryz.func23 rfl (by rfl) rfl (by kernel_rfl) ?_
  unfold Tryz.f23
  simp (config := {implicitDefEqProofs := false, maxSteps := 4000000}) (disch := omega) only [push_cast, c23, Nat.reduceAdd, Nat.reduceSub, Nat.reduceMul, Nat.reduceBEq, Int.reduceToNat, Int.reduceNeg, Int.reduceLE, Int.reduceLT, Int.reduceBEq, Int.reduceBNe, Int.reduceEq, Bool.not_true, Bool.not_false, eq_self, reduceCtorEq]
/- mizmaze/mealy.Valid$1$1 -/
def c32 : VCfg := ⟨⟨[], [], [], [0, 2]⟩, [], [], []⟩
theorem f32 (x : Int) : ACall Tryz.prog 32 [.int .i64 x] (fun r objs => r = .bool (decide (x < 0 ∨ 16 ≤ x)) ∧ objs = []) := by
  refine acall_intro (tyP_ok _) c32 2000 [.tmp 2] Tryz.func32 rfl (by rfl) rfl (by kernel_rfl) ?_
  unfold Tryz.f32
  simp (config := {implicitDefEqProofs := false, maxSteps := 4000000}) (disch := omega) only [push_cast, c32, Nat.reduceAdd, Nat.reduceSub, Nat.reduceMul, Nat.reduceBEq, Int.reduceToNat, Int.reduceNeg, Int.reduceLE, Int.reduceLT, Int.reduceBEq, Int.reduceBNe, Int.reduceEq, Bool.not_true, Bool.not_false, eq_self, reduceCtorEq]
  exact ⟨fun h => by simp [h], fun h => by simp [show ¬ x < 0 by omega]⟩
/- mizmaze/mealy.Valid$1 -/
def c30 : VCfg := ⟨⟨[], [], [], [0, 1, 3]⟩, [], [], []⟩
theorem f30 (row : List Int) (z : Bool) (N O : List (List Int)) (z1 z2 : Bool) (h0 : 0 < N.length) (hl : row.length ≤ 4611686018427387904) : ACall Tryz.prog 30 [.pay (.ints .i64 row) z, .fref [.pay (.rows N) z1, .pay (.rows O) z2]] (fun r objs => r = .bool (!(decide (row.length = (N.getD 0 []).length) && belowB row 16)) ∧ objs = []) := by
  refine acall_intro (tyP_ok _) c30 2000 [.tmp 3] Tryz.func30 rfl (by rfl) rfl (by kernel_rfl) ?_
  unfold Tryz.f30
  simp (config := {implicitDefEqProofs := false, maxSteps := 4000000}) (disch := omega) only [push_cast, c30, Nat.reduceAdd, Nat.reduceSub, Nat.reduceMul, Nat.reduceBEq, Int.reduceToNat, Int.reduceNeg, Int.reduceLE, Int.reduceLT, Int.reduceBEq, Int.reduceBNe, Int.reduceEq, Bool.not_true, Bool.not_false, eq_self, reduceCtorEq]
  refine ⟨by omega, fun h => by rw [decide_eq_false h]; rfl, fun h => ?_⟩
  refine callW_eq _ _ (f31 row z hl 32 [] (fun x => decide (x < 0 ∨ 16 ≤ x)) (fun x => f32 x) (NoH.of rfl rfl)) ?_
  simp (config := {implicitDefEqProofs := false, maxSteps := 4000000}) (disch := omega) only [push_cast, c30, Nat.reduceAdd, Nat.reduceSub, Nat.reduceMul, Nat.reduceBEq, Int.reduceToNat, Int.reduceNeg, Int.reduceLE, Int.reduceLT, Int.reduceBEq, Int.reduceBNe, Int.reduceEq, Bool.not_true, Bool.not_false, eq_self, reduceCtorEq]
  rw [decide_eq_true h, Bool.true_and, belowB, Bool.eq_iff_iff]
  simp [List.any_eq_true, List.all_eq_true, Bool.not_eq_true']
  exact ⟨fun ⟨x, h1, h2⟩ => ⟨x, h1, fun h => by omega⟩, fun ⟨x, h1, h2⟩ => ⟨x, h1, by omega⟩⟩
/- mizmaze/mealy.Valid -/
def c8 : VCfg := ⟨⟨[], [], [], [0, 1, 2, 15]⟩, [], [], []⟩
theorem f8 (N O : List (List Int)) (z z' : Bool) (hl : N.length ≤ 4611686018427387904) (hl2 : ∀ r ∈ N, r.length ≤ 4611686018427387904) (ho : O.length ≤ 4611686018427387904) (ho2 : ∀ r ∈ O, r.length ≤ 4611686018427387904) :
    ACall Tryz.prog 8 [.agg [.pay (.rows (N)) (z), .pay (.rows (O)) (z')]] (fun r objs => r = .bool (vmB N O) ∧ objs = []) := by
  refine acall_intro (tyP_ok _) c8 2000 [.tmp 2] Tryz.func8 rfl (by rfl) rfl (by kernel_rfl) ?_
  unfold Tryz.f8
  simp (config := {implicitDefEqProofs := false, maxSteps := 4000000}) (disch := omega) only [push_cast, c8, Nat.reduceAdd, Nat.reduceSub, Nat.reduceMul, Nat.reduceBEq, Int.reduceToNat, Int.reduceNeg, Int.reduceLE, Int.reduceLT, Int.reduceBEq, Int.reduceBNe, Int.reduceEq, Bool.not_true, Bool.not_false, eq_self, reduceCtorEq]
  refine callW_eq _ _ (f23 N O z z') ?_
  simp (config := {implicitDefEqProofs := false, maxSteps := 4000000}) (disch := omega) only [push_cast, c8, Nat.reduceAdd, Nat.reduceSub, Nat.reduceMul, Nat.reduceBEq, Int.reduceToNat, Int.reduceNeg, Int.reduceLE, Int.reduceLT, Int.reduceBEq, Int.reduceBNe, Int.reduceEq, Bool.not_true, Bool.not_false, eq_self, reduceCtorEq]
  refine callW_eq _ _ (f28 N z hl hl2) ?_
  simp (config := {implicitDefEqProofs := false, maxSteps := 4000000}) (disch := omega) only [push_cast, c8, Nat.reduceAdd, Nat.reduceSub, Nat.reduceMul, Nat.reduceBEq, Int.reduceToNat, Int.reduceNeg, Int.reduceLE, Int.reduceLT, Int.reduceBEq, Int.reduceBNe, Int.reduceEq, Bool.not_true, Bool.not_false, eq_self, reduceCtorEq]
  refine ⟨fun hv => vmB_false fun h => ?_, fun hv => ⟨fun hne => vmB_false fun h => hne h.ol, fun heq => ?_⟩⟩
  · rw [vldB_iff.2 h.v] at hv; cases hv
  have hV := vldB_iff.1 hv
  have hn := hV.n1
  refine callW_eq _ _ (f29 O z' ho 30 _ (fun row => !(decide (row.length = (N.getD 0 []).length) && belowB row 16)) (fun x hx => f30 x false N O z z' (by omega) (ho2 x hx)) (NoH.of rfl rfl)) ?_
  simp (config := {implicitDefEqProofs := false, maxSteps := 4000000}) (disch := omega) only [push_cast, c8, Nat.reduceAdd, Nat.reduceSub, Nat.reduceMul, Nat.reduceBEq, Int.reduceToNat, Int.reduceNeg, Int.reduceLE, Int.reduceLT, Int.reduceBEq, Int.reduceBNe, Int.reduceEq, Bool.not_true, Bool.not_false, eq_self, reduceCtorEq]
  rw [Bool.eq_iff_iff, vmB_iff]
  simp only [Bool.not_eq_true', List.any_eq_false, Bool.not_eq_true', Bool.not_eq_false, Bool.not_eq_true]
  constructor
  · intro h5
    refine ⟨hV, heq, fun r hr => ?_⟩
    have := h5 r hr
    simp only [Bool.not_eq_false', Bool.and_eq_true, decide_eq_true_eq, belowB_iff] at this
    exact this
  · intro hm r hr
    have := hm.orow r hr
    simp only [Bool.not_eq_false', Bool.and_eq_true, decide_eq_true_eq, belowB_iff]
    exact this
/- mizmaze/mizmazeref07.Auto -/
def c33 : VCfg := ⟨⟨[], [], [], [0, 1, 2, 3, 4, 5, 14, 17, 49, 57, 80]⟩, [(7, (.op 0 .loose (.op 1 .loose (.op 2 .loose (.op 3 .loose (.op 4 .loose (.op 5 .loose (.op 6 .loose (.op 7 .loose (.op 8 .loose (.op 9 .loose (.op 10 .loose (.op 11 .loose (.op 12 .loose (.op 13 .loose (.op 14 .loose (.op 15 .loose (.op 16 .loose (.op 17 .loose (.op 18 .loose (.op 19 .loose (.op 20 .loose (.op 21 .loose (.op 22 .loose (.op 23 .loose (.op 24 .loose (.op 25 .loose (.op 26 .loose (.op 27 .loose (.op 28 .loose (.op 29 .loose .nil)))))))))))))))))))))))))))))))], [], []⟩
theorem f33 (a : List (List Int)) (z : Bool) (hl : a.length ≤ 4611686018427387904) (hl2 : ∀ r ∈ a, r.length ≤ 4611686018427387904) :
    ACall Tryz.prog 33 [.agg [.pay (.rows a) z]] (fun r objs => r = .bool (vldB a) ∧ objs = []) := by
  refine acall_intro (tyP_ok _) c33 2000 [.tmp 2] Tryz.func33 rfl (by rfl) rfl (by kernel_rfl) ?_
  unfold Tryz.f33
  simp (config := {implicitDefEqProofs := false, maxSteps := 4000000}) (disch := omega) only [push_cast, c33, Nat.reduceAdd, Nat.reduceSub, Nat.reduceMul, Nat.reduceBEq, Int.reduceToNat, Int.reduceNeg, Int.reduceLE, Int.reduceLT, Int.reduceBEq, Int.reduceBNe, Int.reduceEq, Bool.not_true, Bool.not_false, eq_self, reduceCtorEq]
  refine ⟨fun h => vldB_false fun hv => by have := hv.n1; omega, fun h => ⟨fun h2 => vldB_false fun hv => by have := hv.n2; omega, fun h2 => ?_⟩⟩
  refine awp_upto (tyP_ok _) c33 2000 [1, 2, 3, 4] (a.length) (fun i => ∀ j, j < i → (1 ≤ (a.getD j []).length ∧ (a.getD j []).length ≤ 6) ∧ (a.getD j []).length = (a.getD 0 []).length ∧ belowB (a.getD j []) a.length = true) (fun i => ⟨81, [(1, .fref [.pay (.rows a) z]), (2, .bool false), (3, .int .i64 a.length), (4, .int .i64 i)], []⟩) (by kernel_rfl) ?_ ?_ ?_
  · simp (config := {implicitDefEqProofs := false, maxSteps := 4000000}) (disch := omega) only [push_cast, c33, Nat.reduceAdd, Nat.reduceSub, Nat.reduceMul, Nat.reduceBEq, Int.reduceToNat, Int.reduceNeg, Int.reduceLE, Int.reduceLT, Int.reduceBEq, Int.reduceBNe, Int.reduceEq, Bool.not_true, Bool.not_false, eq_self, reduceCtorEq]
  · exact fun j hj => by omega
  intro i hi hr
  simp (config := {implicitDefEqProofs := false, maxSteps := 4000000}) (disch := omega) only [push_cast, c33, Nat.reduceAdd, Nat.reduceSub, Nat.reduceMul, Nat.reduceBEq, Int.reduceToNat, Int.reduceNeg, Int.reduceLE, Int.reduceLT, Int.reduceBEq, Int.reduceBNe, Int.reduceEq, Bool.not_true, Bool.not_false, eq_self, reduceCtorEq]
  have bad : ∀ {Q : Prop}, i < a.length → (Vld a (a.getD 0 []).length → Q → False) → Q → false = vldB a := fun _ h hq => vldB_false fun hv => h hv hq
  refine ⟨fun hlt => ⟨hlt, bad hlt fun hv h => by have := (hv.row _ (getD_mem' hlt)).1; have := hv.k1; omega, fun h1 => ⟨hlt, bad hlt fun hv h => by have := (hv.row _ (getD_mem' hlt)).1; have := hv.k2; omega, fun h6 => ⟨hlt, by omega, bad hlt fun hv h => h (hv.row _ (getD_mem' hlt)).1, fun he => ?_⟩⟩⟩, fun hge => ?_⟩
  · refine awp_upto (tyP_ok _) c33 2000 [1, 2, 3, 4, 5] ((a.getD i []).length) (fun k => ∀ j, j < k → 0 ≤ (a.getD i []).getD j 0 ∧ (a.getD i []).getD j 0 < a.length) (fun k => ⟨81, [(1, .fref [.pay (.rows a) z]), (2, .bool false), (3, .int .i64 a.length), (4, .int .i64 i), (5, .int .i64 k)], []⟩) (by kernel_rfl) ?_ ?_ ?_
    · simp (config := {implicitDefEqProofs := false, maxSteps := 4000000}) (disch := omega) only [push_cast, c33, Nat.reduceAdd, Nat.reduceSub, Nat.reduceMul, Nat.reduceBEq, Int.reduceToNat, Int.reduceNeg, Int.reduceLE, Int.reduceLT, Int.reduceBEq, Int.reduceBNe, Int.reduceEq, Bool.not_true, Bool.not_false, eq_self, reduceCtorEq]
    · exact fun j hj => by omega
    intro k hk hrk
    have hil := hl2 _ (getD_mem' hlt)
    simp (config := {implicitDefEqProofs := false, maxSteps := 4000000}) (disch := omega) only [push_cast, c33, Nat.reduceAdd, Nat.reduceSub, Nat.reduceMul, Nat.reduceBEq, Int.reduceToNat, Int.reduceNeg, Int.reduceLE, Int.reduceLT, Int.reduceBEq, Int.reduceBNe, Int.reduceEq, Bool.not_true, Bool.not_false, eq_self, reduceCtorEq]
    have bad2 : k < (a.getD i []).length → (Q : Prop) → ((0 ≤ (a.getD i []).getD k 0 ∧ (a.getD i []).getD k 0 < a.length) → Q → False) → Q → false = vldB a := fun hk Q h hq => vldB_false fun hv => h ((hv.row _ (getD_mem' hlt)).2 _ (getD_mem hk)) hq
    refine ⟨hlt, fun hkl => ⟨hlt, hkl, bad2 hkl _ fun h1 h2 => by omega, fun h0 => ⟨hlt, hkl, bad2 hkl _ fun h1 h2 => by omega, fun h3 => ⟨hkl, upto_succ hrk ⟨h0, h3⟩⟩⟩⟩, fun hge => ⟨hlt, upto_succ hr ⟨⟨by omega, by omega⟩, he, belowB_iff.2 (all_of_getD (p := fun x => 0 ≤ x ∧ x < a.length) fun j hj => hrk j (by omega))⟩⟩⟩
  · have h0 := hr 0 (by omega)
    exact vldB_true (by omega) (by omega) (by omega) (by omega) fun j hj => (hr j (by omega)).2
/- mizmaze/mizmazeref07.Valid -/
def c9 : VCfg := ⟨⟨[], [], [], [0, 1, 2, 3, 4, 18, 23, 38, 46, 68]⟩, [(6, (.op 0 .loose (.op 1 .loose (.op 2 .loose (.op 3 .loose (.op 4 .loose (.op 5 .loose (.op 6 .loose (.op 7 .loose (.op 8 .loose (.op 9 .loose (.op 10 .loose (.op 11 .loose (.op 12 .loose .nil))))))))))))))], [], []⟩
theorem f9 (N O : List (List Int)) (z z' : Bool) (hl : N.length ≤ 4611686018427387904) (hl2 : ∀ r ∈ N, r.length ≤ 4611686018427387904) (ho : O.length ≤ 4611686018427387904) (ho2 : ∀ r ∈ O, r.length ≤ 4611686018427387904) :
    ACall Tryz.prog 9 [.agg [.pay (.rows (N)) (z), .pay (.rows (O)) (z')]] (fun r objs => r = .bool (vmB N O) ∧ objs = []) := by
  refine acall_intro (tyP_ok _) c9 2000 [.tmp 2] Tryz.func9 rfl (by rfl) rfl (by kernel_rfl) ?_
  unfold Tryz.f9
  simp (config := {implicitDefEqProofs := false, maxSteps := 4000000}) (disch := omega) only [push_cast, c9, Nat.reduceAdd, Nat.reduceSub, Nat.reduceMul, Nat.reduceBEq, Int.reduceToNat, Int.reduceNeg, Int.reduceLE, Int.reduceLT, Int.reduceBEq, Int.reduceBNe, Int.reduceEq, Bool.not_true, Bool.not_false, eq_self, reduceCtorEq]
  refine callW_eq _ _ (f33 N z hl hl2) ?_
  simp (config := {implicitDefEqProofs := false, maxSteps := 4000000}) (disch := omega) only [push_cast, c9, Nat.reduceAdd, Nat.reduceSub, Nat.reduceMul, Nat.reduceBEq, Int.reduceToNat, Int.reduceNeg, Int.reduceLE, Int.reduceLT, Int.reduceBEq, Int.reduceBNe, Int.reduceEq, Bool.not_true, Bool.not_false, eq_self, reduceCtorEq]
  refine ⟨fun hv => vmB_false fun h => ?_, fun hv => ⟨fun hne => vmB_false fun h => hne h.ol, fun heq => ?_⟩⟩
  · rw [vldB_iff.2 h.v] at hv; cases hv
  have hV := vldB_iff.1 hv
  have hn := hV.n1
  refine awp_upto (tyP_ok _) c9 2000 [1, 2, 3] (O.length) (fun i => ∀ j, j < i → (O.getD j []).length = (N.getD 0 []).length ∧ ∀ x ∈ O.getD j [], 0 ≤ x ∧ x < 16) (fun i => ⟨69, [(1, .fref [.pay (.rows N) z, .pay (.rows O) z']), (2, .bool false), (3, .int .i64 i)], []⟩) (by kernel_rfl) ?_ ?_ ?_
  · simp (config := {implicitDefEqProofs := false, maxSteps := 4000000}) (disch := omega) only [push_cast, c9, Nat.reduceAdd, Nat.reduceSub, Nat.reduceMul, Nat.reduceBEq, Int.reduceToNat, Int.reduceNeg, Int.reduceLE, Int.reduceLT, Int.reduceBEq, Int.reduceBNe, Int.reduceEq, Bool.not_true, Bool.not_false, eq_self, reduceCtorEq]
  · exact fun j hj => by omega
  intro i hi hr
  simp (config := {implicitDefEqProofs := false, maxSteps := 4000000}) (disch := omega) only [push_cast, c9, Nat.reduceAdd, Nat.reduceSub, Nat.reduceMul, Nat.reduceBEq, Int.reduceToNat, Int.reduceNeg, Int.reduceLE, Int.reduceLT, Int.reduceBEq, Int.reduceBNe, Int.reduceEq, Bool.not_true, Bool.not_false, eq_self, reduceCtorEq]
  refine ⟨fun hlt => ⟨hlt, by omega, ?_⟩, fun hge => ?_⟩
  · have hNi := (hV.row _ (getD_mem' (show i < N.length by omega))).1
    refine ⟨fun hne => vmB_false fun h => hne ?_, fun he => ?_⟩
    · rw [hNi]; exact (h.orow _ (getD_mem' hlt)).1
    refine awp_upto (tyP_ok _) c9 2000 [1, 2, 3, 4] ((O.getD i []).length) (fun k => ∀ j, j < k → 0 ≤ (O.getD i []).getD j 0 ∧ (O.getD i []).getD j 0 < 16) (fun k => ⟨69, [(1, .fref [.pay (.rows N) z, .pay (.rows O) z']), (2, .bool false), (3, .int .i64 i), (4, .int .i64 k)], []⟩) (by kernel_rfl) ?_ ?_ ?_
    · simp (config := {implicitDefEqProofs := false, maxSteps := 4000000}) (disch := omega) only [push_cast, c9, Nat.reduceAdd, Nat.reduceSub, Nat.reduceMul, Nat.reduceBEq, Int.reduceToNat, Int.reduceNeg, Int.reduceLE, Int.reduceLT, Int.reduceBEq, Int.reduceBNe, Int.reduceEq, Bool.not_true, Bool.not_false, eq_self, reduceCtorEq]
    · exact fun j hj => by omega
    intro k hk hrk
    have hil := ho2 _ (getD_mem' hlt)
    simp (config := {implicitDefEqProofs := false, maxSteps := 4000000}) (disch := omega) only [push_cast, c9, Nat.reduceAdd, Nat.reduceSub, Nat.reduceMul, Nat.reduceBEq, Int.reduceToNat, Int.reduceNeg, Int.reduceLE, Int.reduceLT, Int.reduceBEq, Int.reduceBNe, Int.reduceEq, Bool.not_true, Bool.not_false, eq_self, reduceCtorEq]
    have bad2 : k < (O.getD i []).length → (Q : Prop) → ((0 ≤ (O.getD i []).getD k 0 ∧ (O.getD i []).getD k 0 < 16) → Q → False) → Q → false = vmB N O := fun hk Q h hq => vmB_false fun hv => h ((hv.orow _ (getD_mem' hlt)).2 _ (getD_mem hk)) hq
    refine ⟨hlt, fun hkl => ⟨hlt, hkl, bad2 hkl _ fun h1 h2 => by omega, fun h0 => ⟨hlt, hkl, bad2 hkl _ fun h1 h2 => by omega, fun h3 => ⟨hkl, upto_succ hrk ⟨h0, h3⟩⟩⟩⟩, fun hge => ⟨hlt, upto_succ hr ⟨by omega, all_of_getD (p := fun x => 0 ≤ x ∧ x < 16) fun j hj => hrk j (by omega)⟩⟩⟩
  · refine vmB_true ⟨hV, heq, fun r hr' => ?_⟩
    obtain ⟨j, hj, rfl⟩ := List.getElem_of_mem hr'
    have := hr j (by omega)
    rwa [show O.getD j [] = O[j] by simp [hj]] at this
/- mizmaze/mizmazeref07.Letters -/
def c14 : VCfg := ⟨⟨[], [], [], [0, 1, 2]⟩, [], [], []⟩
theorem f14 (N O : List (List Int)) (z z' : Bool) (h : 0 < N.length) : ACall Tryz.prog 14 [.agg [.pay (.rows (N)) (z), .pay (.rows (O)) (z')]] (fun r objs => r = .int .i64 (N.getD 0 []).length ∧ objs = []) := by
  refine acall_intro (tyP_ok _) c14 2000 [.tmp 2] Tryz.func14 rfl (by rfl) rfl (by kernel_rfl) ?_
  unfold Tryz.f14
  simp (config := {implicitDefEqProofs := false, maxSteps := 4000000}) (disch := omega) only [push_cast, c14, Nat.reduceAdd, Nat.reduceSub, Nat.reduceMul, Nat.reduceBEq, Int.reduceToNat, Int.reduceNeg, Int.reduceLE, Int.reduceLT, Int.reduceBEq, Int.reduceBNe, Int.reduceEq, Bool.not_true, Bool.not_false, eq_self, reduceCtorEq]
  exact h
/- mizmaze/mizmazelaw07.state -/
def c10 : VCfg := ⟨⟨[], [], [], [0, 1, 2, 4]⟩, [], [], []⟩
theorem f10 (N O : List (List Int)) (z z' : Bool) (s : Int) : ACall Tryz.prog 10 [.agg [.pay (.rows (N)) (z), .pay (.rows (O)) (z')], .int .i64 s] (fun r objs => r = .bool (decide (0 ≤ s ∧ s < N.length)) ∧ objs = []) := by
  refine acall_intro (tyP_ok _) c10 2000 [.tmp 4] Tryz.func10 rfl (by rfl) rfl (by kernel_rfl) ?_
  unfold Tryz.f10
  simp (config := {implicitDefEqProofs := false, maxSteps := 4000000}) (disch := omega) only [push_cast, c10, Nat.reduceAdd, Nat.reduceSub, Nat.reduceMul, Nat.reduceBEq, Int.reduceToNat, Int.reduceNeg, Int.reduceLE, Int.reduceLT, Int.reduceBEq, Int.reduceBNe, Int.reduceEq, Bool.not_true, Bool.not_false, eq_self, reduceCtorEq]
  exact ⟨fun h => by simp [h], fun h => by simp [show ¬ 0 ≤ s by omega]⟩
/- mizmaze/mizmazelaw07.wide -/
def c16 : VCfg := ⟨⟨[], [], [], [0, 2, 3, 11, 19]⟩, [], [], []⟩
theorem f16 (L : List (List Int)) (z : Bool) (hl : L.length ≤ 4611686018427387904) : ACall Tryz.prog 16 [.pay (.rows L) z] (fun r objs => ∃ b, r = .bool b ∧ (b = false → L.length ≤ 100 ∧ ∀ r ∈ L, r.length ≤ 100) ∧ objs = []) := by
  refine acall_intro (tyP_ok _) c16 2000 [.tmp 2] Tryz.func16 rfl (by rfl) rfl (by kernel_rfl) ?_
  unfold Tryz.f16
  simp (config := {implicitDefEqProofs := false, maxSteps := 4000000}) (disch := omega) only [push_cast, c16, Nat.reduceAdd, Nat.reduceSub, Nat.reduceMul, Nat.reduceBEq, Int.reduceToNat, Int.reduceNeg, Int.reduceLE, Int.reduceLT, Int.reduceBEq, Int.reduceBNe, Int.reduceEq, Bool.not_true, Bool.not_false, eq_self, reduceCtorEq]
  refine awp_upto (tyP_ok _) c16 2000 [0, 2, 3] (L.length) (fun i => ∀ j, j < i → (L.getD j []).length ≤ 100) (fun i => ⟨23, [(0, .pay (.rows L) z), (2, .bool false), (3, .int .i64 i)], []⟩) (by kernel_rfl) ?_ ?_ ?_
  · simp (config := {implicitDefEqProofs := false, maxSteps := 4000000}) (disch := omega) only [push_cast, c16, Nat.reduceAdd, Nat.reduceSub, Nat.reduceMul, Nat.reduceBEq, Int.reduceToNat, Int.reduceNeg, Int.reduceLE, Int.reduceLT, Int.reduceBEq, Int.reduceBNe, Int.reduceEq, Bool.not_true, Bool.not_false, eq_self, reduceCtorEq]
  · exact fun j hj => by omega
  intro i hi hr
  simp (config := {implicitDefEqProofs := false, maxSteps := 4000000}) (disch := omega) only [push_cast, c16, Nat.reduceAdd, Nat.reduceSub, Nat.reduceMul, Nat.reduceBEq, Int.reduceToNat, Int.reduceNeg, Int.reduceLE, Int.reduceLT, Int.reduceBEq, Int.reduceBNe, Int.reduceEq, Bool.not_true, Bool.not_false, eq_self, reduceCtorEq]
  have key : L.length ≤ 100 → L.length ≤ i ∨ 100 ≤ i → ∀ r ∈ L, r.length ≤ 100 := fun h1 h2 r hr' => by
    obtain ⟨j, hj, rfl⟩ := List.getElem_of_mem hr'
    have := hr j (by omega)
    rwa [show L.getD j [] = L[j] by simp [hj]] at this
  refine ⟨fun hlt => ⟨fun h100 => ⟨hlt, fun hgt => ⟨true, rfl, fun h => by cases h⟩, fun hle => ⟨hlt, upto_succ hr (by omega)⟩⟩, fun h100 => ⟨_, rfl, fun h => ?_⟩⟩, fun hge => ⟨_, rfl, fun h => ?_⟩⟩
  all_goals
    have h9 : L.length ≤ 100 := by simp at h; omega
    exact ⟨h9, key h9 (by omega)⟩
/- mizmaze/mizmazelaw07.Wide -/
def c4 : VCfg := ⟨⟨[], [], [], [0, 1, 2]⟩, [], [], []⟩
theorem f4 (N O : List (List Int)) (z z' : Bool) (hl : N.length ≤ 4611686018427387904) (ho : O.length ≤ 4611686018427387904) : ACall Tryz.prog 4 [.agg [.pay (.rows (N)) (z), .pay (.rows (O)) (z')]] (fun r objs => ∃ b, r = .bool b ∧ (b = false → (N.length ≤ 100 ∧ ∀ r ∈ N, r.length ≤ 100) ∧ O.length ≤ 100 ∧ ∀ r ∈ O, r.length ≤ 100) ∧ objs = []) := by
  refine acall_intro (tyP_ok _) c4 2000 [.tmp 2] Tryz.func4 rfl (by rfl) rfl (by kernel_rfl) ?_
  unfold Tryz.f4
  simp (config := {implicitDefEqProofs := false, maxSteps := 4000000}) (disch := omega) only [push_cast, c4, Nat.reduceAdd, Nat.reduceSub, Nat.reduceMul, Nat.reduceBEq, Int.reduceToNat, Int.reduceNeg, Int.reduceLE, Int.reduceLT, Int.reduceBEq, Int.reduceBNe, Int.reduceEq, Bool.not_true, Bool.not_false, eq_self, reduceCtorEq]
  refine callW_rel (f16 N z hl) ?_
  rintro R O' ⟨b, rfl, hb, rfl⟩
  simp (config := {implicitDefEqProofs := false, maxSteps := 4000000}) (disch := omega) only [push_cast, c4, Nat.reduceAdd, Nat.reduceSub, Nat.reduceMul, Nat.reduceBEq, Int.reduceToNat, Int.reduceNeg, Int.reduceLE, Int.reduceLT, Int.reduceBEq, Int.reduceBNe, Int.reduceEq, Bool.not_true, Bool.not_false, eq_self, reduceCtorEq]
  refine ⟨fun h => ⟨true, rfl, fun h => by cases h⟩, fun h => ?_⟩
  refine callW_rel (f16 O z' ho) ?_
  rintro R O' ⟨b2, rfl, hb2, rfl⟩
  simp (config := {implicitDefEqProofs := false, maxSteps := 4000000}) (disch := omega) only [push_cast, c4, Nat.reduceAdd, Nat.reduceSub, Nat.reduceMul, Nat.reduceBEq, Int.reduceToNat, Int.reduceNeg, Int.reduceLE, Int.reduceLT, Int.reduceBEq, Int.reduceBNe, Int.reduceEq, Bool.not_true, Bool.not_false, eq_self, reduceCtorEq]
  exact ⟨b2, rfl, fun h2 => ⟨hb h, hb2 h2⟩⟩
/- mizmaze/mizmazeref07.Same -/
def c11 : VCfg := ⟨⟨[], [], [], [0, 1, 4, 5, 10, 14, 25]⟩, [(6, (.op 0 .loose (.op 1 .loose (.op 2 .loose (.op 3 .loose (.op 4 .loose (.op 5 .loose (.op 6 .loose (.op 7 .loose (.op 8 .loose .nil))))))))))], [], []⟩
theorem f11 (x y : List Int) (z z' : Bool) (hx : x.length ≤ 4611686018427387904) :
    ACall Tryz.prog 11 [.pay (.ints .i64 x) z, .pay (.ints .i64 y) z'] (fun r objs => r = .bool (decide (x = y)) ∧ objs = []) := by
  refine acall_intro (tyP_ok _) c11 2000 [.tmp 4] Tryz.func11 rfl (by rfl) rfl (by kernel_rfl) ?_
  unfold Tryz.f11
  simp (config := {implicitDefEqProofs := false, maxSteps := 4000000}) (disch := omega) only [push_cast, c11, Nat.reduceAdd, Nat.reduceSub, Nat.reduceMul, Nat.reduceBEq, Int.reduceToNat, Int.reduceNeg, Int.reduceLE, Int.reduceLT, Int.reduceBEq, Int.reduceBNe, Int.reduceEq, Bool.not_true, Bool.not_false, eq_self, reduceCtorEq]
  refine ⟨fun hne => ?_, fun heq => ?_⟩
  · have : x ≠ y := fun e => by subst e; simp at hne
    simp [this]
  refine awp_upto (tyP_ok _) c11 2000 [0, 1, 4, 5] (x.length) (fun i => ∀ j, j < i → x.getD j 0 = y.getD j 0) (fun i => ⟨26, [(0, .pay (.ints .i64 x) z), (1, .pay (.ints .i64 y) z'), (4, .bool false), (5, .int .i64 i)], []⟩) (by kernel_rfl) rfl ?_ ?_
  · exact fun j hj => by omega
  intro i hi hp
  simp (config := {implicitDefEqProofs := false, maxSteps := 4000000}) (disch := omega) only [push_cast, c11, Nat.reduceAdd, Nat.reduceSub, Nat.reduceMul, Nat.reduceBEq, Int.reduceToNat, Int.reduceNeg, Int.reduceLE, Int.reduceLT, Int.reduceBEq, Int.reduceBNe, Int.reduceEq, Bool.not_true, Bool.not_false, eq_self, reduceCtorEq]
  refine ⟨fun hlt => ⟨hlt, by omega, fun hne => ?_, fun he => ⟨hlt, upto_succ hp he⟩⟩, fun hge => ?_⟩
  · have : x ≠ y := fun e => hne (by rw [e])
    simp [this]
  · have : x = y := ints_eq' heq fun j hj => hp j (by omega)
    simp [this]
theorem rows_eq' {x y : List (List Int)} (h : x.length = y.length) (he : ∀ j, j < x.length → x.getD j [] = y.getD j []) : x = y := by
  refine List.ext_getElem h fun j h1 h2 => ?_
  have := he j h1
  simpa [List.getD, h1, h2] using this
/- mizmaze/mizmazelaw07.Two -/
def c20 : VCfg := ⟨⟨[], [], [], [0]⟩, [], [], []⟩
theorem f20 : ACall Tryz.prog 20 [] (fun r objs => r = .agg [.pay (.rows ([[1, 0], [0, 1]])) (false), .pay (.rows ([[0, 1], [0, 0]])) (false)] ∧ objs = []) := by
  suffices h : ACall Tryz.prog 20 [] (fun r objs => r = .agg [.own 0, .own 1] ∧ objs = [.arr (.rows [[1, 0], [0, 1]]) ⟨25, false⟩, .arr (.rows [[0, 1], [0, 0]]) ⟨25, false⟩]) by
    refine h.frz ?_
    rintro r objs ⟨rfl, rfl⟩
    exact ⟨[0, 1], _, 2, rfl, rfl, rfl⟩
  refine acall_intro (tyP_ok _) c20 2000 [.cell 0 24] Tryz.func20 rfl (by rfl) rfl (by kernel_rfl) ?_
  unfold Tryz.f20
  simp (config := {implicitDefEqProofs := false, maxSteps := 4000000}) (disch := omega) only [push_cast, c20, Nat.reduceAdd, Nat.reduceSub, Nat.reduceMul, Nat.reduceBEq, Int.reduceToNat, Int.reduceNeg, Int.reduceLE, Int.reduceLT, Int.reduceBEq, Int.reduceBNe, Int.reduceEq, Bool.not_true, Bool.not_false, eq_self, reduceCtorEq]
end Go.AM
end

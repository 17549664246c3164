/-
  Contracts of the package auto's functions, of Valid on both sides and of the chapter's small functions; conditions in each statement.
-/
import Derived.Test.YthgglfpklgjibaaDoorF4
import Derived.Test.YthgglfpklgjibaaDoorProg
import Derived.KernelRfl
import Derived.Test.YthgglfpklgjibaaDoorP1
import Derived.Test.YthgglfpklgjibaaDoorP2
import Derived.Test.YthgglfpklgjibaaDoorF5
set_option linter.unusedVariables false
set_option linter.unusedSimpArgs false
set_option linter.unusedSectionVars false

/-! text UdT -/
section
namespace Go.AM
open Go Go.Proofs
theorem t3 : tyP Tryd.prog 3 = some ⟨1, 8, .int .i64, .int .i64 0⟩ := by kernel_rfl
theorem t4 : tyP Tryd.prog 4 = some ⟨1, 1, .bool, .bool false⟩ := by kernel_rfl
theorem t5 : tyP Tryd.prog 5 = some ⟨1, 1, .int .u8, .int .u8 0⟩ := by kernel_rfl
theorem t9 : tyP Tryd.prog 9 = some ⟨1, 16, .str, .str ByteArray.empty⟩ := by kernel_rfl
theorem t22 : tyP Tryd.prog 22 = some ⟨1, 24, .slice 27, .lit (.slice none 0 0)⟩ := by kernel_rfl
theorem t24 : tyP Tryd.prog 24 = some ⟨2, 48, .struct [(0, 22), (1, 22)], .agg [.lit (.slice none 0 0), .lit (.slice none 0 0)]⟩ := by kernel_rfl
theorem t27 : tyP Tryd.prog 27 = some ⟨1, 24, .slice 3, .lit (.slice none 0 0)⟩ := by kernel_rfl
theorem t28 : tyP Tryd.prog 28 = some ⟨1, 8, .int .i64, .int .i64 0⟩ := by kernel_rfl
theorem t64 : tyP Tryd.prog 64 = some ⟨1, 24, .struct [(0, 22)], .agg [.lit (.slice none 0 0)]⟩ := by kernel_rfl
theorem t67 : tyP Tryd.prog 67 = some ⟨2, 16, .array 2 3, .agg [.int .i64 0, .int .i64 0]⟩ := by kernel_rfl
theorem t68 : tyP Tryd.prog 68 = some ⟨1, 24, .slice 67, .lit (.slice none 0 0)⟩ := by kernel_rfl
theorem t69 : tyP Tryd.prog 69 = some ⟨1, 24, .slice 4, .lit (.slice none 0 0)⟩ := by kernel_rfl
theorem t70 : tyP Tryd.prog 70 = some ⟨1, 24, .slice 9, .lit (.slice none 0 0)⟩ := by kernel_rfl
theorem t78 : tyP Tryd.prog 78 = some ⟨1, 16, .iface, .lit .nilIface⟩ := by kernel_rfl
theorem t94 : tyP Tryd.prog 94 = some ⟨4, 32, .struct [(0, 67), (2, 3), (3, 3)], .agg [.int .i64 0, .int .i64 0, .int .i64 0, .int .i64 0]⟩ := by kernel_rfl
theorem t95 : tyP Tryd.prog 95 = some ⟨1, 24, .slice 94, .lit (.slice none 0 0)⟩ := by kernel_rfl
theorem t96 : tyP Tryd.prog 96 = some ⟨1, 8, .map 67 4, .lit (.map none)⟩ := by kernel_rfl
theorem t99 : tyP Tryd.prog 99 = some ⟨1, 24, .slice 5, .lit (.slice none 0 0)⟩ := by kernel_rfl
theorem t109 : tyP Tryd.prog 109 = some ⟨1, 8, .int .u64, .int .u64 0⟩ := by kernel_rfl
theorem t113 : tyP Tryd.prog 113 = some ⟨1, 8, .ptr 115, .lit (.pointer none)⟩ := by kernel_rfl
theorem t115 : tyP Tryd.prog 115 = some ⟨3, 56, .struct [(0, 24), (2, 3)], .agg [.lit (.slice none 0 0), .lit (.slice none 0 0), .int .i64 0]⟩ := by kernel_rfl
theorem t131 : tyP Tryd.prog 131 = some ⟨1, 8, .map 133 3, .lit (.map none)⟩ := by kernel_rfl
theorem t133 : tyP Tryd.prog 133 = some ⟨13, 104, .array 13 3, .agg [.int .i64 0, .int .i64 0, .int .i64 0, .int .i64 0, .int .i64 0, .int .i64 0, .int .i64 0, .int .i64 0, .int .i64 0, .int .i64 0, .int .i64 0, .int .i64 0, .int .i64 0]⟩ := by kernel_rfl
attribute [push_cast] t3 t4 t5 t9 t22 t24 t27 t28 t64 t67 t68 t69 t70 t78 t94 t95 t96 t99 t109 t113 t115 t131 t133
end Go.AM
end

/-! text Ud1 -/
section
namespace Go.AM
open Go Go.Proofs

/- mizmaze/auto.Letters -/
def c75 : VCfg := ⟨⟨[], [], [], [0, 1, 2]⟩, [], [], []⟩
theorem f75 (a : List (List Int)) (z : Bool) (h : 0 < a.length) : ACall Tryd.prog 75 [.agg [.pay (.rows a) z]] (fun r objs => r = .int .i64 (a.getD 0 []).length ∧ objs = []) := by
  refine acall_intro (tyP_ok _) c75 2000 [.tmp 2] Tryd.func75 rfl (by rfl) rfl (by kernel_rfl) ?_
  unfold Tryd.f75
  simp (config := {implicitDefEqProofs := false, maxSteps := 4000000}) (disch := omega) only [push_cast, c75, Nat.reduceAdd, Nat.reduceSub, Nat.reduceMul, Nat.reduceBEq, Int.reduceToNat, Int.reduceNeg, Int.reduceLE, Int.reduceLT, Int.reduceBEq, Int.reduceBNe, Int.reduceEq, Bool.not_true, Bool.not_false, eq_self, reduceCtorEq]
  exact h
/- mizmaze/auto.within[[]int]$1 -/
def c92 : VCfg := ⟨⟨[], [], [], [0, 1, 3]⟩, [], [], []⟩
theorem f92 (x n : Int) : ACall Tryd.prog 92 [.int .i64 x, .fref [.int .i64 n]] (fun r objs => r = .bool (decide (x < 0 ∨ n ≤ x)) ∧ objs = []) := by
  refine acall_intro (tyP_ok _) c92 2000 [.tmp 3] Tryd.func92 rfl (by rfl) rfl (by kernel_rfl) ?_
  unfold Tryd.f92
  simp (config := {implicitDefEqProofs := false, maxSteps := 4000000}) (disch := omega) only [push_cast, c92, Nat.reduceAdd, Nat.reduceSub, Nat.reduceMul, Nat.reduceBEq, Int.reduceToNat, Int.reduceNeg, Int.reduceLE, Int.reduceLT, Int.reduceBEq, Int.reduceBNe, Int.reduceEq, Bool.not_true, Bool.not_false, eq_self, reduceCtorEq]
  exact ⟨fun h => by simp [h], fun h => by simp [show ¬ x < 0 by omega]⟩
/- slices.IndexFunc[[]int,int] -/
def c80 : VCfg := ⟨⟨[], [], [], [0, 1, 4, 5, 7, 8, 9, 16]⟩, [], [], []⟩
theorem f80 (l : List Int) (z : Bool) (hl : l.length ≤ 4611686018427387904) (g : FuncId) (caps : List AV) (p : Int → Bool) (hg : ∀ x, ACall Tryd.prog g (.int .i64 x :: caps) (fun r objs => r = .bool (p x) ∧ objs = [])) (hc : NoH caps) :
    ACall Tryd.prog 80 [.pay (.ints .i64 l) z, .clo g caps] (fun r objs => ∃ n : Int, (0 ≤ n ↔ ∃ x ∈ l, p x = true) ∧ r = .int .i64 n ∧ objs = []) := by
  refine acall_intro (tyP_ok _) c80 2000 [.tmp 4] Tryd.func80 rfl (by rfl) rfl (by kernel_rfl) ?_
  unfold Tryd.f80
  simp (config := {implicitDefEqProofs := false, maxSteps := 4000000}) (disch := omega) only [push_cast, c80, Nat.reduceAdd, Nat.reduceSub, Nat.reduceMul, Nat.reduceBEq, Int.reduceToNat, Int.reduceNeg, Int.reduceLE, Int.reduceLT, Int.reduceBEq, Int.reduceBNe, Int.reduceEq, Bool.not_true, Bool.not_false, eq_self, reduceCtorEq]
  refine awp_upto (tyP_ok _) c80 2000 [0, 1, 4, 7, 8] (l.length) (fun i => ∀ j, j < i → p (l.getD j 0) = false) (fun i => ⟨19, [(0, .pay (.ints .i64 l) z), (1, .clo g caps), (4, .int .i64 0), (7, .int .i64 l.length), (8, .int .i64 i)], []⟩) (by kernel_rfl) ?_ ?_ ?_
  · simp (config := {implicitDefEqProofs := false, maxSteps := 4000000}) (disch := omega) only [push_cast, c80, hc.hs, hc.mp, Nat.reduceAdd, Nat.reduceSub, Nat.reduceMul, Nat.reduceBEq, Int.reduceToNat, Int.reduceNeg, Int.reduceLE, Int.reduceLT, Int.reduceBEq, Int.reduceBNe, Int.reduceEq, Bool.not_true, Bool.not_false, eq_self, reduceCtorEq]
  · exact fun j hj => by omega
  intro i hi hr
  simp (config := {implicitDefEqProofs := false, maxSteps := 4000000}) (disch := omega) only [push_cast, c80, hc.hs, hc.mp, hc.no3, Nat.reduceAdd, Nat.reduceSub, Nat.reduceMul, Nat.reduceBEq, Int.reduceToNat, Int.reduceNeg, Int.reduceLE, Int.reduceLT, Int.reduceBEq, Int.reduceBNe, Int.reduceEq, Bool.not_true, Bool.not_false, eq_self, reduceCtorEq]
  refine ⟨fun hlt => ⟨hlt, ?_⟩, fun hge => ⟨-1, ?_, rfl⟩⟩
  · refine callW_eq _ _ (hg _) ?_
    simp (config := {implicitDefEqProofs := false, maxSteps := 4000000}) (disch := omega) only [push_cast, c80, hc.hs, hc.mp, hc.no3, Nat.reduceAdd, Nat.reduceSub, Nat.reduceMul, Nat.reduceBEq, Int.reduceToNat, Int.reduceNeg, Int.reduceLE, Int.reduceLT, Int.reduceBEq, Int.reduceBNe, Int.reduceEq, Bool.not_true, Bool.not_false, eq_self, reduceCtorEq]
    refine ⟨fun h => ⟨i, ⟨fun _ => ⟨_, getD_mem hlt, h⟩, fun _ => by omega⟩, rfl⟩, fun h => ⟨hlt, fun j hj => ?_⟩⟩
    rcases Nat.lt_succ_iff_lt_or_eq.1 hj with hj | rfl
    · exact hr j hj
    · exact h
  · refine ⟨fun h => by omega, fun ⟨x, hx, h⟩ => ?_⟩
    obtain ⟨j, hj, rfl⟩ := List.getElem_of_mem hx
    have := hr j (by omega)
    have e : l.getD j 0 = l[j] := by simp [hj]
    rw [e, h] at this
    cases this
/- slices.ContainsFunc[[]int,int] -/
def c58 : VCfg := ⟨⟨[], [], [], [0, 1, 4]⟩, [], [], []⟩
theorem f58 (l : List Int) (z : Bool) (hl : l.length ≤ 4611686018427387904) (g : FuncId) (caps : List AV) (p : Int → Bool) (hg : ∀ x, ACall Tryd.prog g (.int .i64 x :: caps) (fun r objs => r = .bool (p x) ∧ objs = [])) (hc : NoH caps) :
    ACall Tryd.prog 58 [.pay (.ints .i64 l) z, .clo g caps] (fun r objs => r = .bool (l.any p) ∧ objs = []) := by
  refine acall_intro (tyP_ok _) c58 2000 [.tmp 4] Tryd.func58 rfl (by rfl) rfl (by kernel_rfl) ?_
  unfold Tryd.f58
  simp (config := {implicitDefEqProofs := false, maxSteps := 4000000}) (disch := omega) only [push_cast, c58, hc.hs, hc.mp, hc.no2, hc.no3, Nat.reduceAdd, Nat.reduceSub, Nat.reduceMul, Nat.reduceBEq, Int.reduceToNat, Int.reduceNeg, Int.reduceLE, Int.reduceLT, Int.reduceBEq, Int.reduceBNe, Int.reduceEq, Bool.not_true, Bool.not_false, eq_self, reduceCtorEq]
  refine callW_rel (f80 l z hl g caps p hg hc) ?_
  rintro R O ⟨n, hn, rfl, rfl⟩
  simp (config := {implicitDefEqProofs := false, maxSteps := 4000000}) (disch := omega) only [push_cast, c58, hc.hs, hc.mp, hc.no2, hc.no3, Nat.reduceAdd, Nat.reduceSub, Nat.reduceMul, Nat.reduceBEq, Int.reduceToNat, Int.reduceNeg, Int.reduceLE, Int.reduceLT, Int.reduceBEq, Int.reduceBNe, Int.reduceEq, Bool.not_true, Bool.not_false, eq_self, reduceCtorEq]
  rw [Bool.eq_iff_iff, decide_eq_true_eq, hn, List.any_eq_true]
/- mizmaze/auto.within[[]int] -/
def c74 : VCfg := ⟨⟨[], [], [], [0, 1, 3, 4]⟩, [], [], []⟩
theorem f74 (l : List Int) (z : Bool) (n : Int) (hl : l.length ≤ 4611686018427387904) :
    ACall Tryd.prog 74 [.pay (.ints .i64 l) z, .int .i64 n] (fun r objs => r = .bool (belowB l n) ∧ objs = []) := by
  refine acall_intro (tyP_ok _) c74 2000 [.tmp 4] Tryd.func74 rfl (by rfl) rfl (by kernel_rfl) ?_
  unfold Tryd.f74
  simp (config := {implicitDefEqProofs := false, maxSteps := 4000000}) (disch := omega) only [push_cast, c74, Nat.reduceAdd, Nat.reduceSub, Nat.reduceMul, Nat.reduceBEq, Int.reduceToNat, Int.reduceNeg, Int.reduceLE, Int.reduceLT, Int.reduceBEq, Int.reduceBNe, Int.reduceEq, Bool.not_true, Bool.not_false, eq_self, reduceCtorEq]
  refine callW_eq _ _ (f58 l z hl 92 [.fref [.int .i64 n]] (fun x => decide (x < 0 ∨ n ≤ x)) (fun x => f92 x n) (NoH.of rfl rfl)) ?_
  simp (config := {implicitDefEqProofs := false, maxSteps := 4000000}) (disch := omega) only [push_cast, c74, Nat.reduceAdd, Nat.reduceSub, Nat.reduceMul, Nat.reduceBEq, Int.reduceToNat, Int.reduceNeg, Int.reduceLE, Int.reduceLT, Int.reduceBEq, Int.reduceBNe, Int.reduceEq, Bool.not_true, Bool.not_false, eq_self, reduceCtorEq]
  rw [Bool.eq_iff_iff]
  simp [belowB, List.all_eq_true, List.any_eq_false]
/- slices.IndexFunc[[][]int,[]int] -/
def c79 : VCfg := ⟨⟨[], [], [], [0, 1, 4, 5, 7, 8, 9, 16]⟩, [], [], []⟩
theorem f79 (l : List (List Int)) (z : Bool) (hl : l.length ≤ 4611686018427387904) (g : FuncId) (caps : List AV) (p : List Int → Bool) (hg : ∀ x, x ∈ l → ACall Tryd.prog g (.pay (.ints .i64 x) false :: caps) (fun r objs => r = .bool (p x) ∧ objs = [])) (hc : NoH caps) :
    ACall Tryd.prog 79 [.pay (.rows l) z, .clo g caps] (fun r objs => ∃ n : Int, (0 ≤ n ↔ ∃ x ∈ l, p x = true) ∧ r = .int .i64 n ∧ objs = []) := by
  refine acall_intro (tyP_ok _) c79 2000 [.tmp 4] Tryd.func79 rfl (by rfl) rfl (by kernel_rfl) ?_
  unfold Tryd.f79
  simp (config := {implicitDefEqProofs := false, maxSteps := 4000000}) (disch := omega) only [push_cast, c79, Nat.reduceAdd, Nat.reduceSub, Nat.reduceMul, Nat.reduceBEq, Int.reduceToNat, Int.reduceNeg, Int.reduceLE, Int.reduceLT, Int.reduceBEq, Int.reduceBNe, Int.reduceEq, Bool.not_true, Bool.not_false, eq_self, reduceCtorEq]
  refine awp_upto (tyP_ok _) c79 2000 [0, 1, 4, 7, 8] (l.length) (fun i => ∀ j, j < i → p (l.getD j []) = false) (fun i => ⟨19, [(0, .pay (.rows l) z), (1, .clo g caps), (4, .int .i64 0), (7, .int .i64 l.length), (8, .int .i64 i)], []⟩) (by kernel_rfl) ?_ ?_ ?_
  · simp (config := {implicitDefEqProofs := false, maxSteps := 4000000}) (disch := omega) only [push_cast, c79, hc.hs, hc.mp, Nat.reduceAdd, Nat.reduceSub, Nat.reduceMul, Nat.reduceBEq, Int.reduceToNat, Int.reduceNeg, Int.reduceLE, Int.reduceLT, Int.reduceBEq, Int.reduceBNe, Int.reduceEq, Bool.not_true, Bool.not_false, eq_self, reduceCtorEq]
  · exact fun j hj => by omega
  intro i hi hr
  simp (config := {implicitDefEqProofs := false, maxSteps := 4000000}) (disch := omega) only [push_cast, c79, hc.hs, hc.mp, hc.no3, Nat.reduceAdd, Nat.reduceSub, Nat.reduceMul, Nat.reduceBEq, Int.reduceToNat, Int.reduceNeg, Int.reduceLE, Int.reduceLT, Int.reduceBEq, Int.reduceBNe, Int.reduceEq, Bool.not_true, Bool.not_false, eq_self, reduceCtorEq]
  refine ⟨fun hlt => ⟨hlt, ?_⟩, fun hge => ⟨-1, ?_, rfl⟩⟩
  · refine callW_eq _ _ (hg _ (getD_mem' hlt)) ?_
    simp (config := {implicitDefEqProofs := false, maxSteps := 4000000}) (disch := omega) only [push_cast, c79, hc.hs, hc.mp, hc.no3, Nat.reduceAdd, Nat.reduceSub, Nat.reduceMul, Nat.reduceBEq, Int.reduceToNat, Int.reduceNeg, Int.reduceLE, Int.reduceLT, Int.reduceBEq, Int.reduceBNe, Int.reduceEq, Bool.not_true, Bool.not_false, eq_self, reduceCtorEq]
    refine ⟨fun h => ⟨i, ⟨fun _ => ⟨_, getD_mem' hlt, h⟩, fun _ => by omega⟩, rfl⟩, fun h => ⟨hlt, fun j hj => ?_⟩⟩
    rcases Nat.lt_succ_iff_lt_or_eq.1 hj with hj | rfl
    · exact hr j hj
    · exact h
  · refine ⟨fun h => by omega, fun ⟨x, hx, h⟩ => ?_⟩
    obtain ⟨j, hj, rfl⟩ := List.getElem_of_mem hx
    have := hr j (by omega)
    have e : l.getD j [] = l[j] := by simp [hj]
    rw [e, h] at this
    cases this
/- slices.ContainsFunc[[][]int,[]int] -/
def c56 : VCfg := ⟨⟨[], [], [], [0, 1, 4]⟩, [], [], []⟩
theorem f56 (l : List (List Int)) (z : Bool) (hl : l.length ≤ 4611686018427387904) (g : FuncId) (caps : List AV) (p : List Int → Bool) (hg : ∀ x, x ∈ l → ACall Tryd.prog g (.pay (.ints .i64 x) false :: caps) (fun r objs => r = .bool (p x) ∧ objs = [])) (hc : NoH caps) :
    ACall Tryd.prog 56 [.pay (.rows l) z, .clo g caps] (fun r objs => r = .bool (l.any p) ∧ objs = []) := by
  refine acall_intro (tyP_ok _) c56 2000 [.tmp 4] Tryd.func56 rfl (by rfl) rfl (by kernel_rfl) ?_
  unfold Tryd.f56
  simp (config := {implicitDefEqProofs := false, maxSteps := 4000000}) (disch := omega) only [push_cast, c56, hc.hs, hc.mp, hc.no2, hc.no3, Nat.reduceAdd, Nat.reduceSub, Nat.reduceMul, Nat.reduceBEq, Int.reduceToNat, Int.reduceNeg, Int.reduceLE, Int.reduceLT, Int.reduceBEq, Int.reduceBNe, Int.reduceEq, Bool.not_true, Bool.not_false, eq_self, reduceCtorEq]
  refine callW_rel (f79 l z hl g caps p hg hc) ?_
  rintro R O ⟨n, hn, rfl, rfl⟩
  simp (config := {implicitDefEqProofs := false, maxSteps := 4000000}) (disch := omega) only [push_cast, c56, hc.hs, hc.mp, hc.no2, hc.no3, Nat.reduceAdd, Nat.reduceSub, Nat.reduceMul, Nat.reduceBEq, Int.reduceToNat, Int.reduceNeg, Int.reduceLE, Int.reduceLT, Int.reduceBEq, Int.reduceBNe, Int.reduceEq, Bool.not_true, Bool.not_false, eq_self, reduceCtorEq]
  rw [Bool.eq_iff_iff, decide_eq_true_eq, hn, List.any_eq_true]
/- mizmaze/auto.Valid$1 -/
def c78 : VCfg := ⟨⟨[], [], [], [0, 1, 2, 4]⟩, [], [], []⟩
theorem f78 (row : List Int) (z z' : Bool) (k : Int) (a : List (List Int)) (hl : row.length ≤ 4611686018427387904) :
    ACall Tryd.prog 78 [.pay (.ints .i64 row) z, .fref [.int .i64 k], .fref [.pay (.rows a) z']] (fun r objs => r = .bool (!(decide ((row.length : Int) = k) && belowB row a.length)) ∧ objs = []) := by
  refine acall_intro (tyP_ok _) c78 2000 [.tmp 4] Tryd.func78 rfl (by rfl) rfl (by kernel_rfl) ?_
  unfold Tryd.f78
  simp (config := {implicitDefEqProofs := false, maxSteps := 4000000}) (disch := omega) only [push_cast, c78, Nat.reduceAdd, Nat.reduceSub, Nat.reduceMul, Nat.reduceBEq, Int.reduceToNat, Int.reduceNeg, Int.reduceLE, Int.reduceLT, Int.reduceBEq, Int.reduceBNe, Int.reduceEq, Bool.not_true, Bool.not_false, eq_self, reduceCtorEq]
  refine ⟨fun h => by simp [h], fun h => ?_⟩
  refine callW_eq _ _ (f74 row z a.length hl) ?_
  simp (config := {implicitDefEqProofs := false, maxSteps := 4000000}) (disch := omega) only [push_cast, c78, Nat.reduceAdd, Nat.reduceSub, Nat.reduceMul, Nat.reduceBEq, Int.reduceToNat, Int.reduceNeg, Int.reduceLE, Int.reduceLT, Int.reduceBEq, Int.reduceBNe, Int.reduceEq, Bool.not_true, Bool.not_false, eq_self, reduceCtorEq]
  simp [h]
/- mizmaze/auto.Valid -/
def c55 : VCfg := ⟨⟨[], [], [], [0, 1, 2, 3, 13]⟩, [], [], []⟩
theorem f55 (a : List (List Int)) (z : Bool) (hl : a.length ≤ 4611686018427387904) (hl2 : ∀ r ∈ a, r.length ≤ 4611686018427387904) :
    ACall Tryd.prog 55 [.agg [.pay (.rows a) z]] (fun r objs => r = .bool (vldB a) ∧ objs = []) := by
  refine acall_intro (tyP_ok _) c55 2000 [.tmp 2] Tryd.func55 rfl (by rfl) rfl (by kernel_rfl) ?_
  unfold Tryd.f55
  simp (config := {implicitDefEqProofs := false, maxSteps := 4000000}) (disch := omega) only [push_cast, c55, Nat.reduceAdd, Nat.reduceSub, Nat.reduceMul, Nat.reduceBEq, Int.reduceToNat, Int.reduceNeg, Int.reduceLE, Int.reduceLT, Int.reduceBEq, Int.reduceBNe, Int.reduceEq, Bool.not_true, Bool.not_false, eq_self, reduceCtorEq]
  refine ⟨fun h => vldB_false fun hv => by have := hv.n1; omega, fun h => ⟨fun h2 => vldB_false fun hv => by have := hv.n2; omega, fun h2 => ⟨by omega, fun h3 => ⟨fun h4 => ?_, fun h4 => vldB_false fun hv => by have := hv.k2; omega⟩, fun h3 => vldB_false fun hv => by have := hv.k1; omega⟩⟩⟩
  refine callW_eq _ _ (f56 a z hl 78 _ (fun row => !(decide ((row.length : Int) = (a.getD 0 []).length) && belowB row a.length)) (fun x hx => f78 x false z _ a (hl2 x hx)) (NoH.of rfl rfl)) ?_
  simp (config := {implicitDefEqProofs := false, maxSteps := 4000000}) (disch := omega) only [push_cast, c55, Nat.reduceAdd, Nat.reduceSub, Nat.reduceMul, Nat.reduceBEq, Int.reduceToNat, Int.reduceNeg, Int.reduceLE, Int.reduceLT, Int.reduceBEq, Int.reduceBNe, Int.reduceEq, Bool.not_true, Bool.not_false, eq_self, reduceCtorEq]
  rw [Bool.eq_iff_iff, vldB_iff]
  simp only [Bool.not_eq_true', List.any_eq_false, Bool.not_eq_true', Bool.not_eq_false, Bool.not_eq_true]
  constructor
  · intro h5
    refine ⟨by omega, by omega, by omega, by omega, fun r hr => ?_⟩
    have := h5 r hr
    simp only [Bool.not_eq_false', Bool.and_eq_true, decide_eq_true_eq, belowB_iff] at this
    exact ⟨by omega, this.2⟩
  · intro hv r hr
    have := hv.row r hr
    simp only [Bool.not_eq_false', Bool.and_eq_true, decide_eq_true_eq, belowB_iff]
    exact ⟨by omega, this.2⟩
/- mizmaze/auto.Word -/
def c52 : VCfg := ⟨⟨[], [], [], [0, 1, 2, 4]⟩, [], [], []⟩
theorem f52 (a : List (List Int)) (z z' : Bool) (w : List Int) (ha : 0 < a.length) (hw : w.length ≤ 4611686018427387904) :
    ACall Tryd.prog 52 [.agg [.pay (.rows a) z], .pay (.ints .i64 w) z'] (fun r objs => r = .bool (wordB (a.getD 0 []).length w) ∧ objs = []) := by
  refine acall_intro (tyP_ok _) c52 2000 [.tmp 4] Tryd.func52 rfl (by rfl) rfl (by kernel_rfl) ?_
  unfold Tryd.f52
  simp (config := {implicitDefEqProofs := false, maxSteps := 4000000}) (disch := omega) only [push_cast, c52, Nat.reduceAdd, Nat.reduceSub, Nat.reduceMul, Nat.reduceBEq, Int.reduceToNat, Int.reduceNeg, Int.reduceLE, Int.reduceLT, Int.reduceBEq, Int.reduceBNe, Int.reduceEq, Bool.not_true, Bool.not_false, eq_self, reduceCtorEq]
  refine ⟨fun h => ?_, fun h => by simp [wordB, show ¬ w.length ≤ 40000 by omega]⟩
  refine callW_eq _ _ (f75 a z ha) ?_
  simp (config := {implicitDefEqProofs := false, maxSteps := 4000000}) (disch := omega) only [push_cast, c52, Nat.reduceAdd, Nat.reduceSub, Nat.reduceMul, Nat.reduceBEq, Int.reduceToNat, Int.reduceNeg, Int.reduceLE, Int.reduceLT, Int.reduceBEq, Int.reduceBNe, Int.reduceEq, Bool.not_true, Bool.not_false, eq_self, reduceCtorEq]
  refine callW_eq _ _ (f74 w z' _ hw) ?_
  simp (config := {implicitDefEqProofs := false, maxSteps := 4000000}) (disch := omega) only [push_cast, c52, Nat.reduceAdd, Nat.reduceSub, Nat.reduceMul, Nat.reduceBEq, Int.reduceToNat, Int.reduceNeg, Int.reduceLE, Int.reduceLT, Int.reduceBEq, Int.reduceBNe, Int.reduceEq, Bool.not_true, Bool.not_false, eq_self, reduceCtorEq]
  simp [wordB, show w.length ≤ 40000 by omega]
/- mizmaze/auto.State -/
def c36 : VCfg := ⟨⟨[], [], [], [0, 1, 2, 4]⟩, [], [], []⟩
theorem f36 (a : List (List Int)) (z : Bool) (s : Int) :
    ACall Tryd.prog 36 [.agg [.pay (.rows a) z], .int .i64 s] (fun r objs => r = .bool (decide (0 ≤ s ∧ s < a.length)) ∧ objs = []) := by
  refine acall_intro (tyP_ok _) c36 2000 [.tmp 4] Tryd.func36 rfl (by rfl) rfl (by kernel_rfl) ?_
  unfold Tryd.f36
  simp (config := {implicitDefEqProofs := false, maxSteps := 4000000}) (disch := omega) only [push_cast, c36, Nat.reduceAdd, Nat.reduceSub, Nat.reduceMul, Nat.reduceBEq, Int.reduceToNat, Int.reduceNeg, Int.reduceLE, Int.reduceLT, Int.reduceBEq, Int.reduceBNe, Int.reduceEq, Bool.not_true, Bool.not_false, eq_self, reduceCtorEq]
  exact ⟨fun h => by simp [h], fun h => by simp [show ¬ 0 ≤ s by omega]⟩
end Go.AM
end

/-! text Ud2 -/
section
namespace Go.AM
open Go Go.Proofs
/- mizmaze/mealy.Auto -/
def c37 : VCfg := ⟨⟨[], [], [], [0, 1, 2]⟩, [], [], []⟩
theorem f37 (N O : List (List Int)) (z z' : Bool) : ACall Tryd.prog 37 [.agg [.pay (.rows (N)) (z), .pay (.rows (O)) (z')]] (fun r objs => r = .agg [.pay (.rows N) z] ∧ objs = []) := by
  refine acall_intro (tyP_ok _) c37 2000 [.cell 2 64] Tryd.func37 rfl (by rfl) rfl (by kernel_rfl) ?_
  unfold Tryd.f37
  simp (config := {implicitDefEqProofs := false, maxSteps := 4000000}) (disch := omega) only [push_cast, c37, Nat.reduceAdd, Nat.reduceSub, Nat.reduceMul, Nat.reduceBEq, Int.reduceToNat, Int.reduceNeg, Int.reduceLE, Int.reduceLT, Int.reduceBEq, Int.reduceBNe, Int.reduceEq, Bool.not_true, Bool.not_false, eq_self, reduceCtorEq]
/- mizmaze/mealy.Valid$1$1 -/
def c59 : VCfg := ⟨⟨[], [], [], [0, 2]⟩, [], [], []⟩
theorem f59 (x : Int) : ACall Tryd.prog 59 [.int .i64 x] (fun r objs => r = .bool (decide (x < 0 ∨ 16 ≤ x)) ∧ objs = []) := by
  refine acall_intro (tyP_ok _) c59 2000 [.tmp 2] Tryd.func59 rfl (by rfl) rfl (by kernel_rfl) ?_
  unfold Tryd.f59
  simp (config := {implicitDefEqProofs := false, maxSteps := 4000000}) (disch := omega) only [push_cast, c59, Nat.reduceAdd, Nat.reduceSub, Nat.reduceMul, Nat.reduceBEq, Int.reduceToNat, Int.reduceNeg, Int.reduceLE, Int.reduceLT, Int.reduceBEq, Int.reduceBNe, Int.reduceEq, Bool.not_true, Bool.not_false, eq_self, reduceCtorEq]
  exact ⟨fun h => by simp [h], fun h => by simp [show ¬ x < 0 by omega]⟩
/- mizmaze/mealy.Valid$1 -/
def c57 : VCfg := ⟨⟨[], [], [], [0, 1, 3]⟩, [], [], []⟩
theorem f57 (row : List Int) (z : Bool) (N O : List (List Int)) (z1 z2 : Bool) (h0 : 0 < N.length) (hl : row.length ≤ 4611686018427387904) : ACall Tryd.prog 57 [.pay (.ints .i64 row) z, .fref [.pay (.rows N) z1, .pay (.rows O) z2]] (fun r objs => r = .bool (!(decide (row.length = (N.getD 0 []).length) && belowB row 16)) ∧ objs = []) := by
  refine acall_intro (tyP_ok _) c57 2000 [.tmp 3] Tryd.func57 rfl (by rfl) rfl (by kernel_rfl) ?_
  unfold Tryd.f57
  simp (config := {implicitDefEqProofs := false, maxSteps := 4000000}) (disch := omega) only [push_cast, c57, Nat.reduceAdd, Nat.reduceSub, Nat.reduceMul, Nat.reduceBEq, Int.reduceToNat, Int.reduceNeg, Int.reduceLE, Int.reduceLT, Int.reduceBEq, Int.reduceBNe, Int.reduceEq, Bool.not_true, Bool.not_false, eq_self, reduceCtorEq]
  refine ⟨by omega, fun h => by rw [decide_eq_false h]; rfl, fun h => ?_⟩
  refine callW_eq _ _ (f58 row z hl 59 [] (fun x => decide (x < 0 ∨ 16 ≤ x)) (fun x => f59 x) (NoH.of rfl rfl)) ?_
  simp (config := {implicitDefEqProofs := false, maxSteps := 4000000}) (disch := omega) only [push_cast, c57, Nat.reduceAdd, Nat.reduceSub, Nat.reduceMul, Nat.reduceBEq, Int.reduceToNat, Int.reduceNeg, Int.reduceLE, Int.reduceLT, Int.reduceBEq, Int.reduceBNe, Int.reduceEq, Bool.not_true, Bool.not_false, eq_self, reduceCtorEq]
  rw [decide_eq_true h, Bool.true_and, belowB, Bool.eq_iff_iff]
  simp [List.any_eq_true, List.all_eq_true, Bool.not_eq_true']
  exact ⟨fun ⟨x, h1, h2⟩ => ⟨x, h1, fun h => by omega⟩, fun ⟨x, h1, h2⟩ => ⟨x, h1, by omega⟩⟩
/- mizmaze/mealy.Valid -/
def c35 : VCfg := ⟨⟨[], [], [], [0, 1, 2, 15]⟩, [], [], []⟩
theorem f35 (N O : List (List Int)) (z z' : Bool) (hl : N.length ≤ 4611686018427387904) (hl2 : ∀ r ∈ N, r.length ≤ 4611686018427387904) (ho : O.length ≤ 4611686018427387904) (ho2 : ∀ r ∈ O, r.length ≤ 4611686018427387904) :
    ACall Tryd.prog 35 [.agg [.pay (.rows (N)) (z), .pay (.rows (O)) (z')]] (fun r objs => r = .bool (vmB N O) ∧ objs = []) := by
  refine acall_intro (tyP_ok _) c35 2000 [.tmp 2] Tryd.func35 rfl (by rfl) rfl (by kernel_rfl) ?_
  unfold Tryd.f35
  simp (config := {implicitDefEqProofs := false, maxSteps := 4000000}) (disch := omega) only [push_cast, c35, Nat.reduceAdd, Nat.reduceSub, Nat.reduceMul, Nat.reduceBEq, Int.reduceToNat, Int.reduceNeg, Int.reduceLE, Int.reduceLT, Int.reduceBEq, Int.reduceBNe, Int.reduceEq, Bool.not_true, Bool.not_false, eq_self, reduceCtorEq]
  refine callW_eq _ _ (f37 N O z z') ?_
  simp (config := {implicitDefEqProofs := false, maxSteps := 4000000}) (disch := omega) only [push_cast, c35, Nat.reduceAdd, Nat.reduceSub, Nat.reduceMul, Nat.reduceBEq, Int.reduceToNat, Int.reduceNeg, Int.reduceLE, Int.reduceLT, Int.reduceBEq, Int.reduceBNe, Int.reduceEq, Bool.not_true, Bool.not_false, eq_self, reduceCtorEq]
  refine callW_eq _ _ (f55 N z hl hl2) ?_
  simp (config := {implicitDefEqProofs := false, maxSteps := 4000000}) (disch := omega) only [push_cast, c35, Nat.reduceAdd, Nat.reduceSub, Nat.reduceMul, Nat.reduceBEq, Int.reduceToNat, Int.reduceNeg, Int.reduceLE, Int.reduceLT, Int.reduceBEq, Int.reduceBNe, Int.reduceEq, Bool.not_true, Bool.not_false, eq_self, reduceCtorEq]
  refine ⟨fun hv => vmB_false fun h => ?_, fun hv => ⟨fun hne => vmB_false fun h => hne h.ol, fun heq => ?_⟩⟩
  · rw [vldB_iff.2 h.v] at hv; cases hv
  have hV := vldB_iff.1 hv
  have hn := hV.n1
  refine callW_eq _ _ (f56 O z' ho 57 _ (fun row => !(decide (row.length = (N.getD 0 []).length) && belowB row 16)) (fun x hx => f57 x false N O z z' (by omega) (ho2 x hx)) (NoH.of rfl rfl)) ?_
  simp (config := {implicitDefEqProofs := false, maxSteps := 4000000}) (disch := omega) only [push_cast, c35, Nat.reduceAdd, Nat.reduceSub, Nat.reduceMul, Nat.reduceBEq, Int.reduceToNat, Int.reduceNeg, Int.reduceLE, Int.reduceLT, Int.reduceBEq, Int.reduceBNe, Int.reduceEq, Bool.not_true, Bool.not_false, eq_self, reduceCtorEq]
  rw [Bool.eq_iff_iff, vmB_iff]
  simp only [Bool.not_eq_true', List.any_eq_false, Bool.not_eq_true', Bool.not_eq_false, Bool.not_eq_true]
  constructor
  · intro h5
    refine ⟨hV, heq, fun r hr => ?_⟩
    have := h5 r hr
    simp only [Bool.not_eq_false', Bool.and_eq_true, decide_eq_true_eq, belowB_iff] at this
    exact this
  · intro hm r hr
    have := hm.orow r hr
    simp only [Bool.not_eq_false', Bool.and_eq_true, decide_eq_true_eq, belowB_iff]
    exact this
/- mizmaze/mizmazeref07.Auto -/
def c39 : VCfg := ⟨⟨[], [], [], [0, 1, 2, 3, 4, 5, 14, 17, 49, 57, 80]⟩, [(7, (.op 0 .loose (.op 1 .loose (.op 2 .loose (.op 3 .loose (.op 4 .loose (.op 5 .loose (.op 6 .loose (.op 7 .loose (.op 8 .loose (.op 9 .loose (.op 10 .loose (.op 11 .loose (.op 12 .loose (.op 13 .loose (.op 14 .loose (.op 15 .loose (.op 16 .loose (.op 17 .loose (.op 18 .loose (.op 19 .loose (.op 20 .loose (.op 21 .loose (.op 22 .loose (.op 23 .loose (.op 24 .loose (.op 25 .loose (.op 26 .loose (.op 27 .loose (.op 28 .loose (.op 29 .loose .nil)))))))))))))))))))))))))))))))], [], []⟩
theorem f39 (a : List (List Int)) (z : Bool) (hl : a.length ≤ 4611686018427387904) (hl2 : ∀ r ∈ a, r.length ≤ 4611686018427387904) :
    ACall Tryd.prog 39 [.agg [.pay (.rows a) z]] (fun r objs => r = .bool (vldB a) ∧ objs = []) := by
  refine acall_intro (tyP_ok _) c39 2000 [.tmp 2] Tryd.func39 rfl (by rfl) rfl (by kernel_rfl) ?_
  unfold Tryd.f39
  simp (config := {implicitDefEqProofs := false, maxSteps := 4000000}) (disch := omega) only [push_cast, c39, Nat.reduceAdd, Nat.reduceSub, Nat.reduceMul, Nat.reduceBEq, Int.reduceToNat, Int.reduceNeg, Int.reduceLE, Int.reduceLT, Int.reduceBEq, Int.reduceBNe, Int.reduceEq, Bool.not_true, Bool.not_false, eq_self, reduceCtorEq]
  refine ⟨fun h => vldB_false fun hv => by have := hv.n1; omega, fun h => ⟨fun h2 => vldB_false fun hv => by have := hv.n2; omega, fun h2 => ?_⟩⟩
  refine awp_upto (tyP_ok _) c39 2000 [1, 2, 3, 4] (a.length) (fun i => ∀ j, j < i → (1 ≤ (a.getD j []).length ∧ (a.getD j []).length ≤ 6) ∧ (a.getD j []).length = (a.getD 0 []).length ∧ belowB (a.getD j []) a.length = true) (fun i => ⟨81, [(1, .fref [.pay (.rows a) z]), (2, .bool false), (3, .int .i64 a.length), (4, .int .i64 i)], []⟩) (by kernel_rfl) ?_ ?_ ?_
  · simp (config := {implicitDefEqProofs := false, maxSteps := 4000000}) (disch := omega) only [push_cast, c39, Nat.reduceAdd, Nat.reduceSub, Nat.reduceMul, Nat.reduceBEq, Int.reduceToNat, Int.reduceNeg, Int.reduceLE, Int.reduceLT, Int.reduceBEq, Int.reduceBNe, Int.reduceEq, Bool.not_true, Bool.not_false, eq_self, reduceCtorEq]
  · exact fun j hj => by omega
  intro i hi hr
  simp (config := {implicitDefEqProofs := false, maxSteps := 4000000}) (disch := omega) only [push_cast, c39, Nat.reduceAdd, Nat.reduceSub, Nat.reduceMul, Nat.reduceBEq, Int.reduceToNat, Int.reduceNeg, Int.reduceLE, Int.reduceLT, Int.reduceBEq, Int.reduceBNe, Int.reduceEq, Bool.not_true, Bool.not_false, eq_self, reduceCtorEq]
  have bad : ∀ {Q : Prop}, i < a.length → (Vld a (a.getD 0 []).length → Q → False) → Q → false = vldB a := fun _ h hq => vldB_false fun hv => h hv hq
  refine ⟨fun hlt => ⟨hlt, bad hlt fun hv h => by have := (hv.row _ (getD_mem' hlt)).1; have := hv.k1; omega, fun h1 => ⟨hlt, bad hlt fun hv h => by have := (hv.row _ (getD_mem' hlt)).1; have := hv.k2; omega, fun h6 => ⟨hlt, by omega, bad hlt fun hv h => h (hv.row _ (getD_mem' hlt)).1, fun he => ?_⟩⟩⟩, fun hge => ?_⟩
  · refine awp_upto (tyP_ok _) c39 2000 [1, 2, 3, 4, 5] ((a.getD i []).length) (fun k => ∀ j, j < k → 0 ≤ (a.getD i []).getD j 0 ∧ (a.getD i []).getD j 0 < a.length) (fun k => ⟨81, [(1, .fref [.pay (.rows a) z]), (2, .bool false), (3, .int .i64 a.length), (4, .int .i64 i), (5, .int .i64 k)], []⟩) (by kernel_rfl) ?_ ?_ ?_
    · simp (config := {implicitDefEqProofs := false, maxSteps := 4000000}) (disch := omega) only [push_cast, c39, Nat.reduceAdd, Nat.reduceSub, Nat.reduceMul, Nat.reduceBEq, Int.reduceToNat, Int.reduceNeg, Int.reduceLE, Int.reduceLT, Int.reduceBEq, Int.reduceBNe, Int.reduceEq, Bool.not_true, Bool.not_false, eq_self, reduceCtorEq]
    · exact fun j hj => by omega
    intro k hk hrk
    have hil := hl2 _ (getD_mem' hlt)
    simp (config := {implicitDefEqProofs := false, maxSteps := 4000000}) (disch := omega) only [push_cast, c39, Nat.reduceAdd, Nat.reduceSub, Nat.reduceMul, Nat.reduceBEq, Int.reduceToNat, Int.reduceNeg, Int.reduceLE, Int.reduceLT, Int.reduceBEq, Int.reduceBNe, Int.reduceEq, Bool.not_true, Bool.not_false, eq_self, reduceCtorEq]
    have bad2 : k < (a.getD i []).length → (Q : Prop) → ((0 ≤ (a.getD i []).getD k 0 ∧ (a.getD i []).getD k 0 < a.length) → Q → False) → Q → false = vldB a := fun hk Q h hq => vldB_false fun hv => h ((hv.row _ (getD_mem' hlt)).2 _ (getD_mem hk)) hq
    refine ⟨hlt, fun hkl => ⟨hlt, hkl, bad2 hkl _ fun h1 h2 => by omega, fun h0 => ⟨hlt, hkl, bad2 hkl _ fun h1 h2 => by omega, fun h3 => ⟨hkl, upto_succ hrk ⟨h0, h3⟩⟩⟩⟩, fun hge => ⟨hlt, upto_succ hr ⟨⟨by omega, by omega⟩, he, belowB_iff.2 (all_of_getD (p := fun x => 0 ≤ x ∧ x < a.length) fun j hj => hrk j (by omega))⟩⟩⟩
  · have h0 := hr 0 (by omega)
    exact vldB_true (by omega) (by omega) (by omega) (by omega) fun j hj => (hr j (by omega)).2
/- mizmaze/mizmazeref07.Valid -/
def c14 : VCfg := ⟨⟨[], [], [], [0, 1, 2, 3, 4, 18, 23, 38, 46, 68]⟩, [(6, (.op 0 .loose (.op 1 .loose (.op 2 .loose (.op 3 .loose (.op 4 .loose (.op 5 .loose (.op 6 .loose (.op 7 .loose (.op 8 .loose (.op 9 .loose (.op 10 .loose (.op 11 .loose (.op 12 .loose .nil))))))))))))))], [], []⟩
theorem f14 (N O : List (List Int)) (z z' : Bool) (hl : N.length ≤ 4611686018427387904) (hl2 : ∀ r ∈ N, r.length ≤ 4611686018427387904) (ho : O.length ≤ 4611686018427387904) (ho2 : ∀ r ∈ O, r.length ≤ 4611686018427387904) :
    ACall Tryd.prog 14 [.agg [.pay (.rows (N)) (z), .pay (.rows (O)) (z')]] (fun r objs => r = .bool (vmB N O) ∧ objs = []) := by
  refine acall_intro (tyP_ok _) c14 2000 [.tmp 2] Tryd.func14 rfl (by rfl) rfl (by kernel_rfl) ?_
  unfold Tryd.f14
  simp (config := {implicitDefEqProofs := false, maxSteps := 4000000}) (disch := omega) only [push_cast, c14, Nat.reduceAdd, Nat.reduceSub, Nat.reduceMul, Nat.reduceBEq, Int.reduceToNat, Int.reduceNeg, Int.reduceLE, Int.reduceLT, Int.reduceBEq, Int.reduceBNe, Int.reduceEq, Bool.not_true, Bool.not_false, eq_self, reduceCtorEq]
  refine callW_eq _ _ (f39 N z hl hl2) ?_
  simp (config := {implicitDefEqProofs := false, maxSteps := 4000000}) (disch := omega) only [push_cast, c14, Nat.reduceAdd, Nat.reduceSub, Nat.reduceMul, Nat.reduceBEq, Int.reduceToNat, Int.reduceNeg, Int.reduceLE, Int.reduceLT, Int.reduceBEq, Int.reduceBNe, Int.reduceEq, Bool.not_true, Bool.not_false, eq_self, reduceCtorEq]
  refine ⟨fun hv => vmB_false fun h => ?_, fun hv => ⟨fun hne => vmB_false fun h => hne h.ol, fun heq => ?_⟩⟩
  · rw [vldB_iff.2 h.v] at hv; cases hv
  have hV := vldB_iff.1 hv
  have hn := hV.n1
  refine awp_upto (tyP_ok _) c14 2000 [1, 2, 3] (O.length) (fun i => ∀ j, j < i → (O.getD j []).length = (N.getD 0 []).length ∧ ∀ x ∈ O.getD j [], 0 ≤ x ∧ x < 16) (fun i => ⟨69, [(1, .fref [.pay (.rows N) z, .pay (.rows O) z']), (2, .bool false), (3, .int .i64 i)], []⟩) (by kernel_rfl) ?_ ?_ ?_
  · simp (config := {implicitDefEqProofs := false, maxSteps := 4000000}) (disch := omega) only [push_cast, c14, Nat.reduceAdd, Nat.reduceSub, Nat.reduceMul, Nat.reduceBEq, Int.reduceToNat, Int.reduceNeg, Int.reduceLE, Int.reduceLT, Int.reduceBEq, Int.reduceBNe, Int.reduceEq, Bool.not_true, Bool.not_false, eq_self, reduceCtorEq]
  · exact fun j hj => by omega
  intro i hi hr
  simp (config := {implicitDefEqProofs := false, maxSteps := 4000000}) (disch := omega) only [push_cast, c14, Nat.reduceAdd, Nat.reduceSub, Nat.reduceMul, Nat.reduceBEq, Int.reduceToNat, Int.reduceNeg, Int.reduceLE, Int.reduceLT, Int.reduceBEq, Int.reduceBNe, Int.reduceEq, Bool.not_true, Bool.not_false, eq_self, reduceCtorEq]
  refine ⟨fun hlt => ⟨hlt, by omega, ?_⟩, fun hge => ?_⟩
  · have hNi := (hV.row _ (getD_mem' (show i < N.length by omega))).1
    refine ⟨fun hne => vmB_false fun h => hne ?_, fun he => ?_⟩
    · rw [hNi]; exact (h.orow _ (getD_mem' hlt)).1
    refine awp_upto (tyP_ok _) c14 2000 [1, 2, 3, 4] ((O.getD i []).length) (fun k => ∀ j, j < k → 0 ≤ (O.getD i []).getD j 0 ∧ (O.getD i []).getD j 0 < 16) (fun k => ⟨69, [(1, .fref [.pay (.rows N) z, .pay (.rows O) z']), (2, .bool false), (3, .int .i64 i), (4, .int .i64 k)], []⟩) (by kernel_rfl) ?_ ?_ ?_
    · simp (config := {implicitDefEqProofs := false, maxSteps := 4000000}) (disch := omega) only [push_cast, c14, Nat.reduceAdd, Nat.reduceSub, Nat.reduceMul, Nat.reduceBEq, Int.reduceToNat, Int.reduceNeg, Int.reduceLE, Int.reduceLT, Int.reduceBEq, Int.reduceBNe, Int.reduceEq, Bool.not_true, Bool.not_false, eq_self, reduceCtorEq]
    · exact fun j hj => by omega
    intro k hk hrk
    have hil := ho2 _ (getD_mem' hlt)
    simp (config := {implicitDefEqProofs := false, maxSteps := 4000000}) (disch := omega) only [push_cast, c14, Nat.reduceAdd, Nat.reduceSub, Nat.reduceMul, Nat.reduceBEq, Int.reduceToNat, Int.reduceNeg, Int.reduceLE, Int.reduceLT, Int.reduceBEq, Int.reduceBNe, Int.reduceEq, Bool.not_true, Bool.not_false, eq_self, reduceCtorEq]
    have bad2 : k < (O.getD i []).length → (Q : Prop) → ((0 ≤ (O.getD i []).getD k 0 ∧ (O.getD i []).getD k 0 < 16) → Q → False) → Q → false = vmB N O := fun hk Q h hq => vmB_false fun hv => h ((hv.orow _ (getD_mem' hlt)).2 _ (getD_mem hk)) hq
    refine ⟨hlt, fun hkl => ⟨hlt, hkl, bad2 hkl _ fun h1 h2 => by omega, fun h0 => ⟨hlt, hkl, bad2 hkl _ fun h1 h2 => by omega, fun h3 => ⟨hkl, upto_succ hrk ⟨h0, h3⟩⟩⟩⟩, fun hge => ⟨hlt, upto_succ hr ⟨by omega, all_of_getD (p := fun x => 0 ≤ x ∧ x < 16) fun j hj => hrk j (by omega)⟩⟩⟩
  · refine vmB_true ⟨hV, heq, fun r hr' => ?_⟩
    obtain ⟨j, hj, rfl⟩ := List.getElem_of_mem hr'
    have := hr j (by omega)
    rwa [show O.getD j [] = O[j] by simp [hj]] at this
/- mizmaze/mizmazeref07.Letters -/
def c24 : VCfg := ⟨⟨[], [], [], [0, 1, 2]⟩, [], [], []⟩
theorem f24 (N O : List (List Int)) (z z' : Bool) (h : 0 < N.length) : ACall Tryd.prog 24 [.agg [.pay (.rows (N)) (z), .pay (.rows (O)) (z')]] (fun r objs => r = .int .i64 (N.getD 0 []).length ∧ objs = []) := by
  refine acall_intro (tyP_ok _) c24 2000 [.tmp 2] Tryd.func24 rfl (by rfl) rfl (by kernel_rfl) ?_
  unfold Tryd.f24
  simp (config := {implicitDefEqProofs := false, maxSteps := 4000000}) (disch := omega) only [push_cast, c24, Nat.reduceAdd, Nat.reduceSub, Nat.reduceMul, Nat.reduceBEq, Int.reduceToNat, Int.reduceNeg, Int.reduceLE, Int.reduceLT, Int.reduceBEq, Int.reduceBNe, Int.reduceEq, Bool.not_true, Bool.not_false, eq_self, reduceCtorEq]
  exact h
/- mizmaze/mizmazelaw07.state -/
def c15 : VCfg := ⟨⟨[], [], [], [0, 1, 2, 4]⟩, [], [], []⟩
theorem f15 (N O : List (List Int)) (z z' : Bool) (s : Int) : ACall Tryd.prog 15 [.agg [.pay (.rows (N)) (z), .pay (.rows (O)) (z')], .int .i64 s] (fun r objs => r = .bool (decide (0 ≤ s ∧ s < N.length)) ∧ objs = []) := by
  refine acall_intro (tyP_ok _) c15 2000 [.tmp 4] Tryd.func15 rfl (by rfl) rfl (by kernel_rfl) ?_
  unfold Tryd.f15
  simp (config := {implicitDefEqProofs := false, maxSteps := 4000000}) (disch := omega) only [push_cast, c15, Nat.reduceAdd, Nat.reduceSub, Nat.reduceMul, Nat.reduceBEq, Int.reduceToNat, Int.reduceNeg, Int.reduceLE, Int.reduceLT, Int.reduceBEq, Int.reduceBNe, Int.reduceEq, Bool.not_true, Bool.not_false, eq_self, reduceCtorEq]
  exact ⟨fun h => by simp [h], fun h => by simp [show ¬ 0 ≤ s by omega]⟩
/- mizmaze/mizmazelaw07.wide -/
def c33 : VCfg := ⟨⟨[], [], [], [0, 2, 3, 11, 19]⟩, [], [], []⟩
theorem f33 (L : List (List Int)) (z : Bool) (hl : L.length ≤ 4611686018427387904) : ACall Tryd.prog 33 [.pay (.rows L) z] (fun r objs => ∃ b, r = .bool b ∧ (b = false → L.length ≤ 100 ∧ ∀ r ∈ L, r.length ≤ 100) ∧ objs = []) := by
  refine acall_intro (tyP_ok _) c33 2000 [.tmp 2] Tryd.func33 rfl (by rfl) rfl (by kernel_rfl) ?_
  unfold Tryd.f33
  simp (config := {implicitDefEqProofs := false, maxSteps := 4000000}) (disch := omega) only [push_cast, c33, Nat.reduceAdd, Nat.reduceSub, Nat.reduceMul, Nat.reduceBEq, Int.reduceToNat, Int.reduceNeg, Int.reduceLE, Int.reduceLT, Int.reduceBEq, Int.reduceBNe, Int.reduceEq, Bool.not_true, Bool.not_false, eq_self, reduceCtorEq]
  refine awp_upto (tyP_ok _) c33 2000 [0, 2, 3] (L.length) (fun i => ∀ j, j < i → (L.getD j []).length ≤ 100) (fun i => ⟨23, [(0, .pay (.rows L) z), (2, .bool false), (3, .int .i64 i)], []⟩) (by kernel_rfl) ?_ ?_ ?_
  · simp (config := {implicitDefEqProofs := false, maxSteps := 4000000}) (disch := omega) only [push_cast, c33, Nat.reduceAdd, Nat.reduceSub, Nat.reduceMul, Nat.reduceBEq, Int.reduceToNat, Int.reduceNeg, Int.reduceLE, Int.reduceLT, Int.reduceBEq, Int.reduceBNe, Int.reduceEq, Bool.not_true, Bool.not_false, eq_self, reduceCtorEq]
  · exact fun j hj => by omega
  intro i hi hr
  simp (config := {implicitDefEqProofs := false, maxSteps := 4000000}) (disch := omega) only [push_cast, c33, Nat.reduceAdd, Nat.reduceSub, Nat.reduceMul, Nat.reduceBEq, Int.reduceToNat, Int.reduceNeg, Int.reduceLE, Int.reduceLT, Int.reduceBEq, Int.reduceBNe, Int.reduceEq, Bool.not_true, Bool.not_false, eq_self, reduceCtorEq]
  have key : L.length ≤ 100 → L.length ≤ i ∨ 100 ≤ i → ∀ r ∈ L, r.length ≤ 100 := fun h1 h2 r hr' => by
    obtain ⟨j, hj, rfl⟩ := List.getElem_of_mem hr'
    have := hr j (by omega)
    rwa [show L.getD j [] = L[j] by simp [hj]] at this
  refine ⟨fun hlt => ⟨fun h100 => ⟨hlt, fun hgt => ⟨true, rfl, fun h => by cases h⟩, fun hle => ⟨hlt, upto_succ hr (by omega)⟩⟩, fun h100 => ⟨_, rfl, fun h => ?_⟩⟩, fun hge => ⟨_, rfl, fun h => ?_⟩⟩
  all_goals
    have h9 : L.length ≤ 100 := by simp at h; omega
    exact ⟨h9, key h9 (by omega)⟩
/- mizmaze/mizmazelaw07.Wide -/
def c11 : VCfg := ⟨⟨[], [], [], [0, 1, 2]⟩, [], [], []⟩
theorem f11 (N O : List (List Int)) (z z' : Bool) (hl : N.length ≤ 4611686018427387904) (ho : O.length ≤ 4611686018427387904) : ACall Tryd.prog 11 [.agg [.pay (.rows (N)) (z), .pay (.rows (O)) (z')]] (fun r objs => ∃ b, r = .bool b ∧ (b = false → (N.length ≤ 100 ∧ ∀ r ∈ N, r.length ≤ 100) ∧ O.length ≤ 100 ∧ ∀ r ∈ O, r.length ≤ 100) ∧ objs = []) := by
  refine acall_intro (tyP_ok _) c11 2000 [.tmp 2] Tryd.func11 rfl (by rfl) rfl (by kernel_rfl) ?_
  unfold Tryd.f11
  simp (config := {implicitDefEqProofs := false, maxSteps := 4000000}) (disch := omega) only [push_cast, c11, Nat.reduceAdd, Nat.reduceSub, Nat.reduceMul, Nat.reduceBEq, Int.reduceToNat, Int.reduceNeg, Int.reduceLE, Int.reduceLT, Int.reduceBEq, Int.reduceBNe, Int.reduceEq, Bool.not_true, Bool.not_false, eq_self, reduceCtorEq]
  refine callW_rel (f33 N z hl) ?_
  rintro R O' ⟨b, rfl, hb, rfl⟩
  simp (config := {implicitDefEqProofs := false, maxSteps := 4000000}) (disch := omega) only [push_cast, c11, Nat.reduceAdd, Nat.reduceSub, Nat.reduceMul, Nat.reduceBEq, Int.reduceToNat, Int.reduceNeg, Int.reduceLE, Int.reduceLT, Int.reduceBEq, Int.reduceBNe, Int.reduceEq, Bool.not_true, Bool.not_false, eq_self, reduceCtorEq]
  refine ⟨fun h => ⟨true, rfl, fun h => by cases h⟩, fun h => ?_⟩
  refine callW_rel (f33 O z' ho) ?_
  rintro R O' ⟨b2, rfl, hb2, rfl⟩
  simp (config := {implicitDefEqProofs := false, maxSteps := 4000000}) (disch := omega) only [push_cast, c11, Nat.reduceAdd, Nat.reduceSub, Nat.reduceMul, Nat.reduceBEq, Int.reduceToNat, Int.reduceNeg, Int.reduceLE, Int.reduceLT, Int.reduceBEq, Int.reduceBNe, Int.reduceEq, Bool.not_true, Bool.not_false, eq_self, reduceCtorEq]
  exact ⟨b2, rfl, fun h2 => ⟨hb h, hb2 h2⟩⟩
/- mizmaze/mizmazeref07.Same -/
def c17 : VCfg := ⟨⟨[], [], [], [0, 1, 4, 5, 10, 14, 25]⟩, [(6, (.op 0 .loose (.op 1 .loose (.op 2 .loose (.op 3 .loose (.op 4 .loose (.op 5 .loose (.op 6 .loose (.op 7 .loose (.op 8 .loose .nil))))))))))], [], []⟩
theorem f17 (x y : List Int) (z z' : Bool) (hx : x.length ≤ 4611686018427387904) :
    ACall Tryd.prog 17 [.pay (.ints .i64 x) z, .pay (.ints .i64 y) z'] (fun r objs => r = .bool (decide (x = y)) ∧ objs = []) := by
  refine acall_intro (tyP_ok _) c17 2000 [.tmp 4] Tryd.func17 rfl (by rfl) rfl (by kernel_rfl) ?_
  unfold Tryd.f17
  simp (config := {implicitDefEqProofs := false, maxSteps := 4000000}) (disch := omega) only [push_cast, c17, Nat.reduceAdd, Nat.reduceSub, Nat.reduceMul, Nat.reduceBEq, Int.reduceToNat, Int.reduceNeg, Int.reduceLE, Int.reduceLT, Int.reduceBEq, Int.reduceBNe, Int.reduceEq, Bool.not_true, Bool.not_false, eq_self, reduceCtorEq]
  refine ⟨fun hne => ?_, fun heq => ?_⟩
  · have : x ≠ y := fun e => by subst e; simp at hne
    simp [this]
  refine awp_upto (tyP_ok _) c17 2000 [0, 1, 4, 5] (x.length) (fun i => ∀ j, j < i → x.getD j 0 = y.getD j 0) (fun i => ⟨26, [(0, .pay (.ints .i64 x) z), (1, .pay (.ints .i64 y) z'), (4, .bool false), (5, .int .i64 i)], []⟩) (by kernel_rfl) rfl ?_ ?_
  · exact fun j hj => by omega
  intro i hi hp
  simp (config := {implicitDefEqProofs := false, maxSteps := 4000000}) (disch := omega) only [push_cast, c17, Nat.reduceAdd, Nat.reduceSub, Nat.reduceMul, Nat.reduceBEq, Int.reduceToNat, Int.reduceNeg, Int.reduceLE, Int.reduceLT, Int.reduceBEq, Int.reduceBNe, Int.reduceEq, Bool.not_true, Bool.not_false, eq_self, reduceCtorEq]
  refine ⟨fun hlt => ⟨hlt, by omega, fun hne => ?_, fun he => ⟨hlt, upto_succ hp he⟩⟩, fun hge => ?_⟩
  · have : x ≠ y := fun e => hne (by rw [e])
    simp [this]
  · have : x = y := ints_eq' heq fun j hj => hp j (by omega)
    simp [this]
theorem rows_eq' {x y : List (List Int)} (h : x.length = y.length) (he : ∀ j, j < x.length → x.getD j [] = y.getD j []) : x = y := by
  refine List.ext_getElem h fun j h1 h2 => ?_
  have := he j h1
  simpa [List.getD, h1, h2] using this
/- mizmaze/mizmazeref07.SameLists -/
def c47 : VCfg := ⟨⟨[], [], [], [0, 1, 4, 5, 10, 14, 26]⟩, [(6, (.op 0 .loose (.op 1 .loose (.op 2 .loose (.op 3 .loose (.op 4 .loose (.op 5 .loose (.op 6 .loose (.op 7 .loose (.op 8 .eff (.op 9 .loose .nil)))))))))))], [], []⟩
theorem f47 (x y : List (List Int)) (z z' : Bool) (hx : x.length ≤ 4611686018427387904) (hx2 : ∀ r ∈ x, r.length ≤ 4611686018427387904) :
    ACall Tryd.prog 47 [.pay (.rows x) z, .pay (.rows y) z'] (fun r objs => r = .bool (decide (x = y)) ∧ objs = []) := by
  refine acall_intro (tyP_ok _) c47 2000 [.tmp 4] Tryd.func47 rfl (by rfl) rfl (by kernel_rfl) ?_
  unfold Tryd.f47
  simp (config := {implicitDefEqProofs := false, maxSteps := 4000000}) (disch := omega) only [push_cast, c47, Nat.reduceAdd, Nat.reduceSub, Nat.reduceMul, Nat.reduceBEq, Int.reduceToNat, Int.reduceNeg, Int.reduceLE, Int.reduceLT, Int.reduceBEq, Int.reduceBNe, Int.reduceEq, Bool.not_true, Bool.not_false, eq_self, reduceCtorEq]
  refine ⟨fun hne => ?_, fun heq => ?_⟩
  · have : x ≠ y := fun e => by subst e; simp at hne
    simp [this]
  refine awp_upto (tyP_ok _) c47 2000 [0, 1, 4, 5] (x.length) (fun i => ∀ j, j < i → x.getD j [] = y.getD j []) (fun i => ⟨27, [(0, .pay (.rows x) z), (1, .pay (.rows y) z'), (4, .bool false), (5, .int .i64 i)], []⟩) (by kernel_rfl) ?_ ?_ ?_
  · simp (config := {implicitDefEqProofs := false, maxSteps := 4000000}) (disch := omega) only [push_cast, c47, Nat.reduceAdd, Nat.reduceSub, Nat.reduceMul, Nat.reduceBEq, Int.reduceToNat, Int.reduceNeg, Int.reduceLE, Int.reduceLT, Int.reduceBEq, Int.reduceBNe, Int.reduceEq, Bool.not_true, Bool.not_false, eq_self, reduceCtorEq]
  · exact fun j hj => by omega
  intro i hi hp
  simp (config := {implicitDefEqProofs := false, maxSteps := 4000000}) (disch := omega) only [push_cast, c47, Nat.reduceAdd, Nat.reduceSub, Nat.reduceMul, Nat.reduceBEq, Int.reduceToNat, Int.reduceNeg, Int.reduceLE, Int.reduceLT, Int.reduceBEq, Int.reduceBNe, Int.reduceEq, Bool.not_true, Bool.not_false, eq_self, reduceCtorEq]
  refine ⟨fun hlt => ⟨hlt, by omega, ?_⟩, fun hge => ?_⟩
  · refine callW_eq _ _ (f17 _ _ _ _ (hx2 _ (getD_mem' hlt))) ?_
    simp (config := {implicitDefEqProofs := false, maxSteps := 4000000}) (disch := omega) only [push_cast, c47, Nat.reduceAdd, Nat.reduceSub, Nat.reduceMul, Nat.reduceBEq, Int.reduceToNat, Int.reduceNeg, Int.reduceLE, Int.reduceLT, Int.reduceBEq, Int.reduceBNe, Int.reduceEq, Bool.not_true, Bool.not_false, eq_self, reduceCtorEq]
    refine ⟨fun hne => ?_, fun he => ⟨hlt, upto_succ hp he⟩⟩
    have : x ≠ y := fun e => hne (by rw [e])
    simp [this]
  · have : x = y := rows_eq' heq fun j hj => hp j (by omega)
    simp [this]
/- mizmaze/mizmazeref07.SameMealy -/
def c21 : VCfg := ⟨⟨[], [], [], [0, 1, 2, 3, 4]⟩, [], [], []⟩
theorem f21 (N O N2 O2 : List (List Int)) (z z' y y' : Bool) (hx : N.length ≤ 4611686018427387904) (hx2 : ∀ r ∈ N, r.length ≤ 4611686018427387904) (ho : O.length ≤ 4611686018427387904) (ho2 : ∀ r ∈ O, r.length ≤ 4611686018427387904) :
    ACall Tryd.prog 21 [.agg [.pay (.rows (N)) (z), .pay (.rows (O)) (z')], .agg [.pay (.rows (N2)) (y), .pay (.rows (O2)) (y')]] (fun r objs => r = .bool (decide (N = N2 ∧ O = O2)) ∧ objs = []) := by
  refine acall_intro (tyP_ok _) c21 2000 [.tmp 4] Tryd.func21 rfl (by rfl) rfl (by kernel_rfl) ?_
  unfold Tryd.f21
  simp (config := {implicitDefEqProofs := false, maxSteps := 4000000}) (disch := omega) only [push_cast, c21, Nat.reduceAdd, Nat.reduceSub, Nat.reduceMul, Nat.reduceBEq, Int.reduceToNat, Int.reduceNeg, Int.reduceLE, Int.reduceLT, Int.reduceBEq, Int.reduceBNe, Int.reduceEq, Bool.not_true, Bool.not_false, eq_self, reduceCtorEq]
  refine callW_eq _ _ (f47 N N2 z y hx hx2) ?_
  simp (config := {implicitDefEqProofs := false, maxSteps := 4000000}) (disch := omega) only [push_cast, c21, Nat.reduceAdd, Nat.reduceSub, Nat.reduceMul, Nat.reduceBEq, Int.reduceToNat, Int.reduceNeg, Int.reduceLE, Int.reduceLT, Int.reduceBEq, Int.reduceBNe, Int.reduceEq, Bool.not_true, Bool.not_false, eq_self, reduceCtorEq]
  refine ⟨fun h => ?_, fun h => by simp [h]⟩
  refine callW_eq _ _ (f47 O O2 z' y' ho ho2) ?_
  simp (config := {implicitDefEqProofs := false, maxSteps := 4000000}) (disch := omega) only [push_cast, c21, Nat.reduceAdd, Nat.reduceSub, Nat.reduceMul, Nat.reduceBEq, Int.reduceToNat, Int.reduceNeg, Int.reduceLE, Int.reduceLT, Int.reduceBEq, Int.reduceBNe, Int.reduceEq, Bool.not_true, Bool.not_false, eq_self, reduceCtorEq]
  simp [h]
/- mizmaze/mizmazelaw07.Two -/
def c34 : VCfg := ⟨⟨[], [], [], [0]⟩, [], [], []⟩
theorem f34 : ACall Tryd.prog 34 [] (fun r objs => r = .agg [.pay (.rows ([[1, 0], [0, 1]])) (false), .pay (.rows ([[0, 1], [0, 0]])) (false)] ∧ objs = []) := by
  suffices h : ACall Tryd.prog 34 [] (fun r objs => r = .agg [.own 0, .own 1] ∧ objs = [.arr (.rows [[1, 0], [0, 1]]) ⟨27, false⟩, .arr (.rows [[0, 1], [0, 0]]) ⟨27, false⟩]) by
    refine h.frz ?_
    rintro r objs ⟨rfl, rfl⟩
    exact ⟨[0, 1], _, 2, rfl, rfl, rfl⟩
  refine acall_intro (tyP_ok _) c34 2000 [.cell 0 24] Tryd.func34 rfl (by rfl) rfl (by kernel_rfl) ?_
  unfold Tryd.f34
  simp (config := {implicitDefEqProofs := false, maxSteps := 4000000}) (disch := omega) only [push_cast, c34, Nat.reduceAdd, Nat.reduceSub, Nat.reduceMul, Nat.reduceBEq, Int.reduceToNat, Int.reduceNeg, Int.reduceLE, Int.reduceLT, Int.reduceBEq, Int.reduceBNe, Int.reduceEq, Bool.not_true, Bool.not_false, eq_self, reduceCtorEq]
/- mizmaze/mizmazeref07.Before -/
def c54 : VCfg := ⟨⟨[], [], [], [0, 1, 4, 5, 15, 26]⟩, [(4, (.op 0 .loose (.op 1 .loose (.op 2 .loose (.op 3 .loose (.op 4 .loose (.op 5 .loose (.op 6 .loose (.op 7 .loose (.op 8 .loose .nil)))))))))), (5, (.op 0 .loose (.op 1 .loose (.op 2 .loose (.op 3 .loose (.op 4 .loose (.op 5 .loose (.op 6 .loose (.op 7 .loose (.op 8 .loose (.op 9 .loose .nil)))))))))))], [], []⟩
theorem f54 (x y : List Int) (z z' : Bool) (hx : x.length ≤ 4611686018427387904) :
    ACall Tryd.prog 54 [.pay (.ints .i64 x) z, .pay (.ints .i64 y) z'] (fun r objs => r = .bool (befB x y) ∧ objs = []) := by
  refine acall_intro (tyP_ok _) c54 2000 [.tmp 4] Tryd.func54 rfl (by rfl) rfl (by kernel_rfl) ?_
  unfold Tryd.f54
  simp (config := {implicitDefEqProofs := false, maxSteps := 4000000}) (disch := omega) only [push_cast, c54, Nat.reduceAdd, Nat.reduceSub, Nat.reduceMul, Nat.reduceBEq, Int.reduceToNat, Int.reduceNeg, Int.reduceLE, Int.reduceLT, Int.reduceBEq, Int.reduceBNe, Int.reduceEq, Bool.not_true, Bool.not_false, eq_self, reduceCtorEq]
  refine awp_upto (tyP_ok _) c54 2000 [0, 1, 4, 5] (x.length) (fun i => i ≤ y.length ∧ ∀ j, j < i → x.getD j 0 = y.getD j 0) (fun i => ⟨41, [(0, .pay (.ints .i64 x) z), (1, .pay (.ints .i64 y) z'), (4, .bool false), (5, .int .i64 i)], []⟩) (by kernel_rfl) ?_ ?_ ?_
  · simp (config := {implicitDefEqProofs := false, maxSteps := 4000000}) (disch := omega) only [push_cast, c54, Nat.reduceAdd, Nat.reduceSub, Nat.reduceMul, Nat.reduceBEq, Int.reduceToNat, Int.reduceNeg, Int.reduceLE, Int.reduceLT, Int.reduceBEq, Int.reduceBNe, Int.reduceEq, Bool.not_true, Bool.not_false, eq_self, reduceCtorEq]
  · exact ⟨by omega, fun j hj => by omega⟩
  intro i hi hp
  simp (config := {implicitDefEqProofs := false, maxSteps := 4000000}) (disch := omega) only [push_cast, c54, Nat.reduceAdd, Nat.reduceSub, Nat.reduceMul, Nat.reduceBEq, Int.reduceToNat, Int.reduceNeg, Int.reduceLE, Int.reduceLT, Int.reduceBEq, Int.reduceBNe, Int.reduceEq, Bool.not_true, Bool.not_false, eq_self, reduceCtorEq]
  refine ⟨fun hlt => ⟨fun hly => ⟨hlt, hly, fun hne => ⟨hlt, hly, (befB_ne hp.2 hlt hly hne).symm⟩, fun he => ⟨hlt, by omega, upto_succ hp.2 he⟩⟩, fun hge => (befB_end hp.2 hi hp.1 (by omega)).symm⟩, fun hge => (befB_end hp.2 hi hp.1 (by omega)).symm⟩
end Go.AM
end

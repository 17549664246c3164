/-
  Contracts of the functions of the package auto and of its reference; conditions in each statement.
-/
import Derived.Test.YtnfflhaehdehaaaGreatDoorF4
import Derived.Test.YtnfflhaehdehaaaGreatDoorProg
import Derived.KernelRfl
import Derived.Test.YtnfflhaehdehaaaGreatDoorP1
import Derived.Test.YtnfflhaehdehaaaGreatDoorF5
import Derived.Test.YtnfflhaehdehaaaGreatDoorSh
set_option linter.unusedVariables false
set_option linter.unusedSimpArgs false
set_option linter.unusedSectionVars false

/-! text UaT -/
section
namespace Go.AM
open Go Go.Proofs
theorem t3 : tyP Tryz.prog 3 = some ⟨1, 8, .int .i64, .int .i64 0⟩ := by kernel_rfl
theorem t4 : tyP Tryz.prog 4 = some ⟨1, 1, .bool, .bool false⟩ := by kernel_rfl
theorem t5 : tyP Tryz.prog 5 = some ⟨1, 1, .int .u8, .int .u8 0⟩ := by kernel_rfl
theorem t9 : tyP Tryz.prog 9 = some ⟨1, 16, .str, .str ByteArray.empty⟩ := by kernel_rfl
theorem t22 : tyP Tryz.prog 22 = some ⟨1, 24, .slice 25, .lit (.slice none 0 0)⟩ := by kernel_rfl
theorem t24 : tyP Tryz.prog 24 = some ⟨1, 24, .struct [(0, 22)], .agg [.lit (.slice none 0 0)]⟩ := by kernel_rfl
theorem t25 : tyP Tryz.prog 25 = some ⟨1, 24, .slice 3, .lit (.slice none 0 0)⟩ := by kernel_rfl
theorem t26 : tyP Tryz.prog 26 = some ⟨1, 8, .int .i64, .int .i64 0⟩ := by kernel_rfl
theorem t64 : tyP Tryz.prog 64 = some ⟨1, 24, .slice 4, .lit (.slice none 0 0)⟩ := by kernel_rfl
theorem t70 : tyP Tryz.prog 70 = some ⟨1, 24, .slice 9, .lit (.slice none 0 0)⟩ := by kernel_rfl
theorem t83 : tyP Tryz.prog 83 = some ⟨1, 24, .slice 5, .lit (.slice none 0 0)⟩ := by kernel_rfl
theorem t88 : tyP Tryz.prog 88 = some ⟨1, 16, .iface, .lit .nilIface⟩ := by kernel_rfl
attribute [push_cast] t3 t4 t5 t9 t22 t24 t25 t26 t64 t70 t83 t88
end Go.AM
end

/-! text Ua1 -/
section
namespace Go.AM
open Go Go.Proofs

/- mizmaze/auto.Letters -/
def c58 : VCfg := ⟨⟨[], [], [], [0, 1, 2]⟩, [], [], []⟩
theorem f58 (a : List (List Int)) (z : Bool) (h : 0 < a.length) : ACall Tryz.prog 58 [.agg [.pay (.rows a) z]] (fun r objs => r = .int .i64 (a.getD 0 []).length ∧ objs = []) := by
  refine acall_intro (tyP_ok _) c58 2000 [.tmp 2] Tryz.func58 rfl (by rfl) rfl (by kernel_rfl) ?_
  unfold Tryz.f58
  simp (config := {implicitDefEqProofs := false, maxSteps := 4000000}) (disch := omega) only [push_cast, c58, Nat.reduceAdd, Nat.reduceSub, Nat.reduceMul, Nat.reduceBEq, Int.reduceToNat, Int.reduceNeg, Int.reduceLE, Int.reduceLT, Int.reduceBEq, Int.reduceBNe, Int.reduceEq, Bool.not_true, Bool.not_false, eq_self, reduceCtorEq]
  exact h
/- mizmaze/auto.within[[]int]$1 -/
def c61 : VCfg := ⟨⟨[], [], [], [0, 1, 3]⟩, [], [], []⟩
theorem f61 (x n : Int) : ACall Tryz.prog 61 [.int .i64 x, .fref [.int .i64 n]] (fun r objs => r = .bool (decide (x < 0 ∨ n ≤ x)) ∧ objs = []) := by
  refine acall_intro (tyP_ok _) c61 2000 [.tmp 3] Tryz.func61 rfl (by rfl) rfl (by kernel_rfl) ?_
  unfold Tryz.f61
  simp (config := {implicitDefEqProofs := false, maxSteps := 4000000}) (disch := omega) only [push_cast, c61, Nat.reduceAdd, Nat.reduceSub, Nat.reduceMul, Nat.reduceBEq, Int.reduceToNat, Int.reduceNeg, Int.reduceLE, Int.reduceLT, Int.reduceBEq, Int.reduceBNe, Int.reduceEq, Bool.not_true, Bool.not_false, eq_self, reduceCtorEq]
  exact ⟨fun h => by simp [h], fun h => by simp [show ¬ x < 0 by omega]⟩
/- slices.IndexFunc[[]int,int] -/
def c72 : VCfg := ⟨⟨[], [], [], [0, 1, 4, 5, 7, 8, 9, 16]⟩, [], [], []⟩
theorem f72 (l : List Int) (z : Bool) (hl : l.length ≤ 4611686018427387904) (g : FuncId) (caps : List AV) (p : Int → Bool) (hg : ∀ x, ACall Tryz.prog g (.int .i64 x :: caps) (fun r objs => r = .bool (p x) ∧ objs = [])) (hc : NoH caps) :
    ACall Tryz.prog 72 [.pay (.ints .i64 l) z, .clo g caps] (fun r objs => ∃ n : Int, (0 ≤ n ↔ ∃ x ∈ l, p x = true) ∧ r = .int .i64 n ∧ objs = []) := by
  refine acall_intro (tyP_ok _) c72 2000 [.tmp 4] Tryz.func72 rfl (by rfl) rfl (by kernel_rfl) ?_
  unfold Tryz.f72
  simp (config := {implicitDefEqProofs := false, maxSteps := 4000000}) (disch := omega) only [push_cast, c72, Nat.reduceAdd, Nat.reduceSub, Nat.reduceMul, Nat.reduceBEq, Int.reduceToNat, Int.reduceNeg, Int.reduceLE, Int.reduceLT, Int.reduceBEq, Int.reduceBNe, Int.reduceEq, Bool.not_true, Bool.not_false, eq_self, reduceCtorEq]
  refine awp_upto (tyP_ok _) c72 2000 [0, 1, 4, 7, 8] (l.length) (fun i => ∀ j, j < i → p (l.getD j 0) = false) (fun i => ⟨19, [(0, .pay (.ints .i64 l) z), (1, .clo g caps), (4, .int .i64 0), (7, .int .i64 l.length), (8, .int .i64 i)], []⟩) (by kernel_rfl) ?_ ?_ ?_
  · simp (config := {implicitDefEqProofs := false, maxSteps := 4000000}) (disch := omega) only [push_cast, c72, hc.hs, hc.mp, Nat.reduceAdd, Nat.reduceSub, Nat.reduceMul, Nat.reduceBEq, Int.reduceToNat, Int.reduceNeg, Int.reduceLE, Int.reduceLT, Int.reduceBEq, Int.reduceBNe, Int.reduceEq, Bool.not_true, Bool.not_false, eq_self, reduceCtorEq]
  · exact fun j hj => by omega
  intro i hi hr
  simp (config := {implicitDefEqProofs := false, maxSteps := 4000000}) (disch := omega) only [push_cast, c72, hc.hs, hc.mp, hc.no3, Nat.reduceAdd, Nat.reduceSub, Nat.reduceMul, Nat.reduceBEq, Int.reduceToNat, Int.reduceNeg, Int.reduceLE, Int.reduceLT, Int.reduceBEq, Int.reduceBNe, Int.reduceEq, Bool.not_true, Bool.not_false, eq_self, reduceCtorEq]
  refine ⟨fun hlt => ⟨hlt, ?_⟩, fun hge => ⟨-1, ?_, rfl⟩⟩
  · refine callW_eq _ _ (hg _) ?_
    simp (config := {implicitDefEqProofs := false, maxSteps := 4000000}) (disch := omega) only [push_cast, c72, hc.hs, hc.mp, hc.no3, Nat.reduceAdd, Nat.reduceSub, Nat.reduceMul, Nat.reduceBEq, Int.reduceToNat, Int.reduceNeg, Int.reduceLE, Int.reduceLT, Int.reduceBEq, Int.reduceBNe, Int.reduceEq, Bool.not_true, Bool.not_false, eq_self, reduceCtorEq]
    refine ⟨fun h => ⟨i, ⟨fun _ => ⟨_, getD_mem hlt, h⟩, fun _ => by omega⟩, rfl⟩, fun h => ⟨hlt, fun j hj => ?_⟩⟩
    rcases Nat.lt_succ_iff_lt_or_eq.1 hj with hj | rfl
    · exact hr j hj
    · exact h
  · refine ⟨fun h => by omega, fun ⟨x, hx, h⟩ => ?_⟩
    obtain ⟨j, hj, rfl⟩ := List.getElem_of_mem hx
    have := hr j (by omega)
    have e : l.getD j 0 = l[j] := by simp [hj]
    rw [e, h] at this
    cases this
/- slices.ContainsFunc[[]int,int] -/
def c60 : VCfg := ⟨⟨[], [], [], [0, 1, 4]⟩, [], [], []⟩
theorem f60 (l : List Int) (z : Bool) (hl : l.length ≤ 4611686018427387904) (g : FuncId) (caps : List AV) (p : Int → Bool) (hg : ∀ x, ACall Tryz.prog g (.int .i64 x :: caps) (fun r objs => r = .bool (p x) ∧ objs = [])) (hc : NoH caps) :
    ACall Tryz.prog 60 [.pay (.ints .i64 l) z, .clo g caps] (fun r objs => r = .bool (l.any p) ∧ objs = []) := by
  refine acall_intro (tyP_ok _) c60 2000 [.tmp 4] Tryz.func60 rfl (by rfl) rfl (by kernel_rfl) ?_
  unfold Tryz.f60
  simp (config := {implicitDefEqProofs := false, maxSteps := 4000000}) (disch := omega) only [push_cast, c60, hc.hs, hc.mp, hc.no2, hc.no3, Nat.reduceAdd, Nat.reduceSub, Nat.reduceMul, Nat.reduceBEq, Int.reduceToNat, Int.reduceNeg, Int.reduceLE, Int.reduceLT, Int.reduceBEq, Int.reduceBNe, Int.reduceEq, Bool.not_true, Bool.not_false, eq_self, reduceCtorEq]
  refine callW_rel (f72 l z hl g caps p hg hc) ?_
  rintro R O ⟨n, hn, rfl, rfl⟩
  simp (config := {implicitDefEqProofs := false, maxSteps := 4000000}) (disch := omega) only [push_cast, c60, hc.hs, hc.mp, hc.no2, hc.no3, Nat.reduceAdd, Nat.reduceSub, Nat.reduceMul, Nat.reduceBEq, Int.reduceToNat, Int.reduceNeg, Int.reduceLE, Int.reduceLT, Int.reduceBEq, Int.reduceBNe, Int.reduceEq, Bool.not_true, Bool.not_false, eq_self, reduceCtorEq]
  rw [Bool.eq_iff_iff, decide_eq_true_eq, hn, List.any_eq_true]
/- mizmaze/auto.within[[]int] -/
def c43 : VCfg := ⟨⟨[], [], [], [0, 1, 3, 4]⟩, [], [], []⟩
theorem f43 (l : List Int) (z : Bool) (n : Int) (hl : l.length ≤ 4611686018427387904) :
    ACall Tryz.prog 43 [.pay (.ints .i64 l) z, .int .i64 n] (fun r objs => r = .bool (belowB l n) ∧ objs = []) := by
  refine acall_intro (tyP_ok _) c43 2000 [.tmp 4] Tryz.func43 rfl (by rfl) rfl (by kernel_rfl) ?_
  unfold Tryz.f43
  simp (config := {implicitDefEqProofs := false, maxSteps := 4000000}) (disch := omega) only [push_cast, c43, Nat.reduceAdd, Nat.reduceSub, Nat.reduceMul, Nat.reduceBEq, Int.reduceToNat, Int.reduceNeg, Int.reduceLE, Int.reduceLT, Int.reduceBEq, Int.reduceBNe, Int.reduceEq, Bool.not_true, Bool.not_false, eq_self, reduceCtorEq]
  refine callW_eq _ _ (f60 l z hl 61 [.fref [.int .i64 n]] (fun x => decide (x < 0 ∨ n ≤ x)) (fun x => f61 x n) (NoH.of rfl rfl)) ?_
  simp (config := {implicitDefEqProofs := false, maxSteps := 4000000}) (disch := omega) only [push_cast, c43, Nat.reduceAdd, Nat.reduceSub, Nat.reduceMul, Nat.reduceBEq, Int.reduceToNat, Int.reduceNeg, Int.reduceLE, Int.reduceLT, Int.reduceBEq, Int.reduceBNe, Int.reduceEq, Bool.not_true, Bool.not_false, eq_self, reduceCtorEq]
  rw [Bool.eq_iff_iff]
  simp [belowB, List.all_eq_true, List.any_eq_false]
/- slices.IndexFunc[[][]int,[]int] -/
def c59 : VCfg := ⟨⟨[], [], [], [0, 1, 4, 5, 7, 8, 9, 16]⟩, [], [], []⟩
theorem f59 (l : List (List Int)) (z : Bool) (hl : l.length ≤ 4611686018427387904) (g : FuncId) (caps : List AV) (p : List Int → Bool) (hg : ∀ x, x ∈ l → ACall Tryz.prog g (.pay (.ints .i64 x) false :: caps) (fun r objs => r = .bool (p x) ∧ objs = [])) (hc : NoH caps) :
    ACall Tryz.prog 59 [.pay (.rows l) z, .clo g caps] (fun r objs => ∃ n : Int, (0 ≤ n ↔ ∃ x ∈ l, p x = true) ∧ r = .int .i64 n ∧ objs = []) := by
  refine acall_intro (tyP_ok _) c59 2000 [.tmp 4] Tryz.func59 rfl (by rfl) rfl (by kernel_rfl) ?_
  unfold Tryz.f59
  simp (config := {implicitDefEqProofs := false, maxSteps := 4000000}) (disch := omega) only [push_cast, c59, Nat.reduceAdd, Nat.reduceSub, Nat.reduceMul, Nat.reduceBEq, Int.reduceToNat, Int.reduceNeg, Int.reduceLE, Int.reduceLT, Int.reduceBEq, Int.reduceBNe, Int.reduceEq, Bool.not_true, Bool.not_false, eq_self, reduceCtorEq]
  refine awp_upto (tyP_ok _) c59 2000 [0, 1, 4, 7, 8] (l.length) (fun i => ∀ j, j < i → p (l.getD j []) = false) (fun i => ⟨19, [(0, .pay (.rows l) z), (1, .clo g caps), (4, .int .i64 0), (7, .int .i64 l.length), (8, .int .i64 i)], []⟩) (by kernel_rfl) ?_ ?_ ?_
  · simp (config := {implicitDefEqProofs := false, maxSteps := 4000000}) (disch := omega) only [push_cast, c59, hc.hs, hc.mp, Nat.reduceAdd, Nat.reduceSub, Nat.reduceMul, Nat.reduceBEq, Int.reduceToNat, Int.reduceNeg, Int.reduceLE, Int.reduceLT, Int.reduceBEq, Int.reduceBNe, Int.reduceEq, Bool.not_true, Bool.not_false, eq_self, reduceCtorEq]
  · exact fun j hj => by omega
  intro i hi hr
  simp (config := {implicitDefEqProofs := false, maxSteps := 4000000}) (disch := omega) only [push_cast, c59, hc.hs, hc.mp, hc.no3, Nat.reduceAdd, Nat.reduceSub, Nat.reduceMul, Nat.reduceBEq, Int.reduceToNat, Int.reduceNeg, Int.reduceLE, Int.reduceLT, Int.reduceBEq, Int.reduceBNe, Int.reduceEq, Bool.not_true, Bool.not_false, eq_self, reduceCtorEq]
  refine ⟨fun hlt => ⟨hlt, ?_⟩, fun hge => ⟨-1, ?_, rfl⟩⟩
  · refine callW_eq _ _ (hg _ (getD_mem' hlt)) ?_
    simp (config := {implicitDefEqProofs := false, maxSteps := 4000000}) (disch := omega) only [push_cast, c59, hc.hs, hc.mp, hc.no3, Nat.reduceAdd, Nat.reduceSub, Nat.reduceMul, Nat.reduceBEq, Int.reduceToNat, Int.reduceNeg, Int.reduceLE, Int.reduceLT, Int.reduceBEq, Int.reduceBNe, Int.reduceEq, Bool.not_true, Bool.not_false, eq_self, reduceCtorEq]
    refine ⟨fun h => ⟨i, ⟨fun _ => ⟨_, getD_mem' hlt, h⟩, fun _ => by omega⟩, rfl⟩, fun h => ⟨hlt, fun j hj => ?_⟩⟩
    rcases Nat.lt_succ_iff_lt_or_eq.1 hj with hj | rfl
    · exact hr j hj
    · exact h
  · refine ⟨fun h => by omega, fun ⟨x, hx, h⟩ => ?_⟩
    obtain ⟨j, hj, rfl⟩ := List.getElem_of_mem hx
    have := hr j (by omega)
    have e : l.getD j [] = l[j] := by simp [hj]
    rw [e, h] at this
    cases this
/- slices.ContainsFunc[[][]int,[]int] -/
def c41 : VCfg := ⟨⟨[], [], [], [0, 1, 4]⟩, [], [], []⟩
theorem f41 (l : List (List Int)) (z : Bool) (hl : l.length ≤ 4611686018427387904) (g : FuncId) (caps : List AV) (p : List Int → Bool) (hg : ∀ x, x ∈ l → ACall Tryz.prog g (.pay (.ints .i64 x) false :: caps) (fun r objs => r = .bool (p x) ∧ objs = [])) (hc : NoH caps) :
    ACall Tryz.prog 41 [.pay (.rows l) z, .clo g caps] (fun r objs => r = .bool (l.any p) ∧ objs = []) := by
  refine acall_intro (tyP_ok _) c41 2000 [.tmp 4] Tryz.func41 rfl (by rfl) rfl (by kernel_rfl) ?_
  unfold Tryz.f41
  simp (config := {implicitDefEqProofs := false, maxSteps := 4000000}) (disch := omega) only [push_cast, c41, hc.hs, hc.mp, hc.no2, hc.no3, Nat.reduceAdd, Nat.reduceSub, Nat.reduceMul, Nat.reduceBEq, Int.reduceToNat, Int.reduceNeg, Int.reduceLE, Int.reduceLT, Int.reduceBEq, Int.reduceBNe, Int.reduceEq, Bool.not_true, Bool.not_false, eq_self, reduceCtorEq]
  refine callW_rel (f59 l z hl g caps p hg hc) ?_
  rintro R O ⟨n, hn, rfl, rfl⟩
  simp (config := {implicitDefEqProofs := false, maxSteps := 4000000}) (disch := omega) only [push_cast, c41, hc.hs, hc.mp, hc.no2, hc.no3, Nat.reduceAdd, Nat.reduceSub, Nat.reduceMul, Nat.reduceBEq, Int.reduceToNat, Int.reduceNeg, Int.reduceLE, Int.reduceLT, Int.reduceBEq, Int.reduceBNe, Int.reduceEq, Bool.not_true, Bool.not_false, eq_self, reduceCtorEq]
  rw [Bool.eq_iff_iff, decide_eq_true_eq, hn, List.any_eq_true]
/- mizmaze/auto.Valid$1 -/
def c42 : VCfg := ⟨⟨[], [], [], [0, 1, 2, 4]⟩, [], [], []⟩
theorem f42 (row : List Int) (z z' : Bool) (k : Int) (a : List (List Int)) (hl : row.length ≤ 4611686018427387904) :
    ACall Tryz.prog 42 [.pay (.ints .i64 row) z, .fref [.int .i64 k], .fref [.pay (.rows a) z']] (fun r objs => r = .bool (!(decide ((row.length : Int) = k) && belowB row a.length)) ∧ objs = []) := by
  refine acall_intro (tyP_ok _) c42 2000 [.tmp 4] Tryz.func42 rfl (by rfl) rfl (by kernel_rfl) ?_
  unfold Tryz.f42
  simp (config := {implicitDefEqProofs := false, maxSteps := 4000000}) (disch := omega) only [push_cast, c42, Nat.reduceAdd, Nat.reduceSub, Nat.reduceMul, Nat.reduceBEq, Int.reduceToNat, Int.reduceNeg, Int.reduceLE, Int.reduceLT, Int.reduceBEq, Int.reduceBNe, Int.reduceEq, Bool.not_true, Bool.not_false, eq_self, reduceCtorEq]
  refine ⟨fun h => by simp [h], fun h => ?_⟩
  refine callW_eq _ _ (f43 row z a.length hl) ?_
  simp (config := {implicitDefEqProofs := false, maxSteps := 4000000}) (disch := omega) only [push_cast, c42, Nat.reduceAdd, Nat.reduceSub, Nat.reduceMul, Nat.reduceBEq, Int.reduceToNat, Int.reduceNeg, Int.reduceLE, Int.reduceLT, Int.reduceBEq, Int.reduceBNe, Int.reduceEq, Bool.not_true, Bool.not_false, eq_self, reduceCtorEq]
  simp [h]
/- mizmaze/auto.Valid -/
def c11 : VCfg := ⟨⟨[], [], [], [0, 1, 2, 3, 13]⟩, [], [], []⟩
theorem f11 (a : List (List Int)) (z : Bool) (hl : a.length ≤ 4611686018427387904) (hl2 : ∀ r ∈ a, r.length ≤ 4611686018427387904) :
    ACall Tryz.prog 11 [.agg [.pay (.rows a) z]] (fun r objs => r = .bool (vldB a) ∧ objs = []) := by
  refine acall_intro (tyP_ok _) c11 2000 [.tmp 2] Tryz.func11 rfl (by rfl) rfl (by kernel_rfl) ?_
  unfold Tryz.f11
  simp (config := {implicitDefEqProofs := false, maxSteps := 4000000}) (disch := omega) only [push_cast, c11, Nat.reduceAdd, Nat.reduceSub, Nat.reduceMul, Nat.reduceBEq, Int.reduceToNat, Int.reduceNeg, Int.reduceLE, Int.reduceLT, Int.reduceBEq, Int.reduceBNe, Int.reduceEq, Bool.not_true, Bool.not_false, eq_self, reduceCtorEq]
  refine ⟨fun h => vldB_false fun hv => by have := hv.n1; omega, fun h => ⟨fun h2 => vldB_false fun hv => by have := hv.n2; omega, fun h2 => ⟨by omega, fun h3 => ⟨fun h4 => ?_, fun h4 => vldB_false fun hv => by have := hv.k2; omega⟩, fun h3 => vldB_false fun hv => by have := hv.k1; omega⟩⟩⟩
  refine callW_eq _ _ (f41 a z hl 42 _ (fun row => !(decide ((row.length : Int) = (a.getD 0 []).length) && belowB row a.length)) (fun x hx => f42 x false z _ a (hl2 x hx)) (NoH.of rfl rfl)) ?_
  simp (config := {implicitDefEqProofs := false, maxSteps := 4000000}) (disch := omega) only [push_cast, c11, Nat.reduceAdd, Nat.reduceSub, Nat.reduceMul, Nat.reduceBEq, Int.reduceToNat, Int.reduceNeg, Int.reduceLE, Int.reduceLT, Int.reduceBEq, Int.reduceBNe, Int.reduceEq, Bool.not_true, Bool.not_false, eq_self, reduceCtorEq]
  rw [Bool.eq_iff_iff, vldB_iff]
  simp only [Bool.not_eq_true', List.any_eq_false, Bool.not_eq_true', Bool.not_eq_false, Bool.not_eq_true]
  constructor
  · intro h5
    refine ⟨by omega, by omega, by omega, by omega, fun r hr => ?_⟩
    have := h5 r hr
    simp only [Bool.not_eq_false', Bool.and_eq_true, decide_eq_true_eq, belowB_iff] at this
    exact ⟨by omega, this.2⟩
  · intro hv r hr
    have := hv.row r hr
    simp only [Bool.not_eq_false', Bool.and_eq_true, decide_eq_true_eq, belowB_iff]
    exact ⟨by omega, this.2⟩
/- mizmaze/auto.Word -/
def c39 : VCfg := ⟨⟨[], [], [], [0, 1, 2, 4]⟩, [], [], []⟩
theorem f39 (a : List (List Int)) (z z' : Bool) (w : List Int) (ha : 0 < a.length) (hw : w.length ≤ 4611686018427387904) :
    ACall Tryz.prog 39 [.agg [.pay (.rows a) z], .pay (.ints .i64 w) z'] (fun r objs => r = .bool (wordB (a.getD 0 []).length w) ∧ objs = []) := by
  refine acall_intro (tyP_ok _) c39 2000 [.tmp 4] Tryz.func39 rfl (by rfl) rfl (by kernel_rfl) ?_
  unfold Tryz.f39
  simp (config := {implicitDefEqProofs := false, maxSteps := 4000000}) (disch := omega) only [push_cast, c39, Nat.reduceAdd, Nat.reduceSub, Nat.reduceMul, Nat.reduceBEq, Int.reduceToNat, Int.reduceNeg, Int.reduceLE, Int.reduceLT, Int.reduceBEq, Int.reduceBNe, Int.reduceEq, Bool.not_true, Bool.not_false, eq_self, reduceCtorEq]
  refine ⟨fun h => ?_, fun h => by simp [wordB, show ¬ w.length ≤ 40000 by omega]⟩
  refine callW_eq _ _ (f58 a z ha) ?_
  simp (config := {implicitDefEqProofs := false, maxSteps := 4000000}) (disch := omega) only [push_cast, c39, Nat.reduceAdd, Nat.reduceSub, Nat.reduceMul, Nat.reduceBEq, Int.reduceToNat, Int.reduceNeg, Int.reduceLE, Int.reduceLT, Int.reduceBEq, Int.reduceBNe, Int.reduceEq, Bool.not_true, Bool.not_false, eq_self, reduceCtorEq]
  refine callW_eq _ _ (f43 w z' _ hw) ?_
  simp (config := {implicitDefEqProofs := false, maxSteps := 4000000}) (disch := omega) only [push_cast, c39, Nat.reduceAdd, Nat.reduceSub, Nat.reduceMul, Nat.reduceBEq, Int.reduceToNat, Int.reduceNeg, Int.reduceLE, Int.reduceLT, Int.reduceBEq, Int.reduceBNe, Int.reduceEq, Bool.not_true, Bool.not_false, eq_self, reduceCtorEq]
  simp [wordB, show w.length ≤ 40000 by omega]
/- mizmaze/auto.State -/
def c38 : VCfg := ⟨⟨[], [], [], [0, 1, 2, 4]⟩, [], [], []⟩
theorem f38 (a : List (List Int)) (z : Bool) (s : Int) :
    ACall Tryz.prog 38 [.agg [.pay (.rows a) z], .int .i64 s] (fun r objs => r = .bool (decide (0 ≤ s ∧ s < a.length)) ∧ objs = []) := by
  refine acall_intro (tyP_ok _) c38 2000 [.tmp 4] Tryz.func38 rfl (by rfl) rfl (by kernel_rfl) ?_
  unfold Tryz.f38
  simp (config := {implicitDefEqProofs := false, maxSteps := 4000000}) (disch := omega) only [push_cast, c38, Nat.reduceAdd, Nat.reduceSub, Nat.reduceMul, Nat.reduceBEq, Int.reduceToNat, Int.reduceNeg, Int.reduceLE, Int.reduceLT, Int.reduceBEq, Int.reduceBNe, Int.reduceEq, Bool.not_true, Bool.not_false, eq_self, reduceCtorEq]
  exact ⟨fun h => by simp [h], fun h => by simp [show ¬ 0 ≤ s by omega]⟩
/- mizmaze/auto.Lead -/
def c40 : VCfg := ⟨⟨[], [], [], [0, 1, 2, 3, 6, 8, 9, 10, 11, 12]⟩, [], [], []⟩
theorem f40 (a : List (List Int)) (z z' : Bool) (s : Int) (word : List Int) (hx : word.length ≤ 4611686018427387904) (k : Nat) (hv : Vld a k) (hs : 0 ≤ s ∧ s < a.length) (hw : ∀ x ∈ word, 0 ≤ x ∧ x < k) :
    ACall Tryz.prog 40 [.agg [.pay (.rows a) z], .int .i64 s, .pay (.ints .i64 word) z'] (fun r objs => r = .int .i64 (leadG a s word) ∧ objs = []) := by
  refine acall_intro (tyP_ok _) c40 2000 [.tmp 6] Tryz.func40 rfl (by rfl) rfl (by kernel_rfl) ?_
  unfold Tryz.f40
  simp (config := {implicitDefEqProofs := false, maxSteps := 4000000}) (disch := omega) only [push_cast, c40, Nat.reduceAdd, Nat.reduceSub, Nat.reduceMul, Nat.reduceBEq, Int.reduceToNat, Int.reduceNeg, Int.reduceLE, Int.reduceLT, Int.reduceBEq, Int.reduceBNe, Int.reduceEq, Bool.not_true, Bool.not_false, eq_self, reduceCtorEq]
  refine awp_upto (tyP_ok _) c40 2000 [1, 2, 3, 6, 9, 10, 11] (word.length) (fun _ => True) (fun i => ⟨25, [(1, .int .i64 (leadG a s (word.take i))), (2, .pay (.ints .i64 word) z'), (3, .fref [.pay (.rows a) z]), (6, .int .i64 0), (9, .pay (.ints .i64 word) z'), (10, .int .i64 word.length), (11, .int .i64 i)], []⟩) (by kernel_rfl) rfl ?_ ?_
  · trivial
  intro i hi _
  simp (config := {implicitDefEqProofs := false, maxSteps := 4000000}) (disch := omega) only [push_cast, c40, Nat.reduceAdd, Nat.reduceSub, Nat.reduceMul, Nat.reduceBEq, Int.reduceToNat, Int.reduceNeg, Int.reduceLE, Int.reduceLT, Int.reduceBEq, Int.reduceBNe, Int.reduceEq, Bool.not_true, Bool.not_false, eq_self, reduceCtorEq]
  refine ⟨fun hlt => ?_, fun hge => by rw [List.take_of_length_le hge]⟩
  have hl := hv.lead (word.take i) hs.1 hs.2 fun x hx => hw x (List.mem_of_mem_take hx)
  have hx1 := hw _ (getD_mem hlt)
  have ha := (hv.at hl.1 hl.2 hx1.1 hx1.2).1
  exact ⟨hlt, hl, ⟨hx1.1, by rw [ha]; exact hx1.2⟩, hlt, (leadG_take a s word i hlt).symm⟩
end Go.AM
end

/-! text Ua2 -/
section
namespace Go.AM
open Go Go.Proofs
theorem f46 (y : Yc) (g : Gh) (l : List Int) (ai : AI) (hl : l.length < 4611686018427387904) : GCall Tryz.prog y 46 g [.own 0] [.arr (.ints .i64 l) ai] (fun g' r A O => g' = g ∧ r = .tup [] ∧ A = [.own 0] ∧ O = [.arr (.ints .i64 (sortL l)) ai]) := by
  refine gcall_inPlace Tryz.func46 rfl rfl (sortL_len l) (fun _ a cap w => Tryz.slices_Sort_int_none a cap w) (fun w b cap hH hb hc => (Tryz.slices_Sort_int b 0 cap l w hH hb hl).mono ?_)
  rintro e w' ⟨rfl, n, os, rfl⟩
  exact ⟨rfl, n, os, rfl⟩
theorem f47 (y : Yc) (g : Gh) (l : List Int) (ai : AI) (hl : l.length < 4611686018427387904) : GCall Tryz.prog y 47 g [.own 0] [.arr (.ints .i64 l) ai] (fun g' r A O => g' = g ∧ r = .own 0 ∧ A = [.junk] ∧ O = [.arr (.ints .i64 (Lib.compact l)) ai]) := by
  refine gcall_cut Tryz.func47 rfl rfl (Lib.compact_length_le l) (fun h => ?_) (fun _ a cap w => Tryz.slices_Compact_int_empty a cap w) (fun w b cap hH hb hc => (Tryz.slices_Compact_int b 0 cap l w hH (by omega) hc).mono ?_)
  · cases l with
    | nil => rfl
    | cons x l =>
      have : x ∈ Lib.compact (x :: l) := mem_compact.2 (by simp)
      rw [List.eq_nil_of_length_eq_zero h] at this
      cases this
  · rintro e w' ⟨rfl, q, rfl⟩
    refine ⟨rfl, q, #[], (Lib.compact l ++ List.replicate (l.length - (Lib.compact l).length) 0).toArray, ?_, fun j hj => ?_, by rw [rowWorld, Sort.grow_empty]⟩
    · have := Lib.compact_length_le l
      simp; omega
    · rw [getElem!_pos _ j (by simp; omega)]
      simp [List.getElem_append_left hj, List.getD, hj]
/- mizmaze/auto.Set -/
def c64 : VCfg := ⟨⟨[], [], [], [0, 1, 2, 4, 5, 6, 7, 8, 9, 10, 30]⟩, [], [], []⟩
theorem f64 (a : List (List Int)) (z z' : Bool) (set : List Int) (hx : set.length ≤ 4611686018427387904) :
    ACall Tryz.prog 64 [.agg [.pay (.rows a) z], .pay (.ints .i64 set) z'] (fun r objs => r = .bool (setB a.length set) ∧ objs = []) := by
  refine acall_intro (tyP_ok _) c64 2000 [.tmp 4] Tryz.func64 rfl (by rfl) rfl (by kernel_rfl) ?_
  unfold Tryz.f64
  simp (config := {implicitDefEqProofs := false, maxSteps := 4000000}) (disch := omega) only [push_cast, c64, Nat.reduceAdd, Nat.reduceSub, Nat.reduceMul, Nat.reduceBEq, Int.reduceToNat, Int.reduceNeg, Int.reduceLE, Int.reduceLT, Int.reduceBEq, Int.reduceBNe, Int.reduceEq, Bool.not_true, Bool.not_false, eq_self, reduceCtorEq]
  refine awp_upto (tyP_ok _) c64 2000 [1, 2, 4, 7, 8, 9] (set.length) (fun i => ∀ j, j < i → (0 ≤ set.getD j 0 ∧ set.getD j 0 < a.length) ∧ (0 < j → set.getD (j - 1) 0 < set.getD j 0)) (fun i => ⟨32, [(1, .pay (.ints .i64 set) z'), (2, .fref [.pay (.rows a) z]), (4, .bool false), (7, .pay (.ints .i64 set) z'), (8, .int .i64 set.length), (9, .int .i64 i)], []⟩) (by kernel_rfl) rfl ?_ ?_
  · exact fun j hj => by omega
  intro i hi hr
  simp (config := {implicitDefEqProofs := false, maxSteps := 4000000}) (disch := omega) only [push_cast, c64, Nat.reduceAdd, Nat.reduceSub, Nat.reduceMul, Nat.reduceBEq, Int.reduceToNat, Int.reduceNeg, Int.reduceLE, Int.reduceLT, Int.reduceBEq, Int.reduceBNe, Int.reduceEq, Bool.not_true, Bool.not_false, eq_self, reduceCtorEq]
  refine ⟨fun hlt => ⟨hlt, ?_⟩, fun hge => setB_true fun j hj => hr j (by omega)⟩
  refine callW_eq _ _ (f38 a z _) ?_
  simp (config := {implicitDefEqProofs := false, maxSteps := 4000000}) (disch := omega) only [push_cast, c64, Nat.reduceAdd, Nat.reduceSub, Nat.reduceMul, Nat.reduceBEq, Int.reduceToNat, Int.reduceNeg, Int.reduceLE, Int.reduceLT, Int.reduceBEq, Int.reduceBNe, Int.reduceEq, Bool.not_true, Bool.not_false, eq_self, reduceCtorEq]
  have nxt : (0 ≤ set.getD i 0 ∧ set.getD i 0 < (a.length : Int)) → (0 < i → set.getD (i - 1) 0 < set.getD i 0) → (∀ j, j < i + 1 → (0 ≤ set.getD j 0 ∧ set.getD j 0 < a.length) ∧ (0 < j → set.getD (j - 1) 0 < set.getD j 0)) := fun h1 h2 j hj => by
    rcases Nat.lt_succ_iff_lt_or_eq.1 hj with hj | rfl
    · exact hr j hj
    · exact ⟨h1, h2⟩
  refine ⟨fun h => setB_bad hlt h, fun h => ⟨fun h0 => ⟨by omega, fun h1 => ?_, fun h1 => ⟨hlt, nxt h (fun _ => ?_)⟩⟩, fun h0 => ⟨hlt, nxt h (fun h => by omega)⟩⟩⟩
  · exact setB_bad2 hlt h0 (by rwa [show ((i : Int) - 1).toNat = i - 1 by omega] at h1)
  · rwa [show ((i : Int) - 1).toNat = i - 1 by omega] at h1
/- mizmaze/auto.Image$1 -/
def c45 : VCfg := ⟨⟨[], [], [], [0, 1, 2, 3, 5, 6, 8, 10, 11, 12, 13]⟩, [], [46, 47], [25, 27]⟩
theorem f45 (a : List (List Int)) (z z' z'' : Bool) (met : AV) (set word : List Int) (hx : word.length ≤ 4611686018427387904) (k : Nat) (hv : Vld a k) (hs : setOk a.length set) (hw : ∀ x ∈ word, 0 ≤ x ∧ x < k) :
    ACall Tryz.prog 45 [met, .fref [.pay (.ints .i64 set) z], .fref [.pay (.rows a) z'], .fref [.pay (.ints .i64 word) z'']] (fun r objs => r = .own 0 ∧ objs = [.arr (.ints .i64 (imageL a set word)) ⟨3, false⟩]) := by
  have hn := hv.n2
  have hsl := hs.len
  refine acall_intro (tyP_ok _) c45 2000 [.tmp 5] Tryz.func45 rfl (by rfl) rfl (by kernel_rfl) ?_
  unfold Tryz.f45
  simp (config := {implicitDefEqProofs := false, maxSteps := 4000000}) (disch := omega) only [push_cast, c45, Nat.reduceAdd, Nat.reduceSub, Nat.reduceMul, Nat.reduceBEq, Int.reduceToNat, Int.reduceNeg, Int.reduceLE, Int.reduceLT, Int.reduceBEq, Int.reduceBNe, Int.reduceEq, Bool.not_true, Bool.not_false, eq_self, reduceCtorEq]
  refine awp_upto (tyP_ok _) c45 2000 [1, 2, 3, 5, 6, 10, 11, 12] (set.length) (fun _ => True) (fun i => ⟨28, [(1, .fref [.pay (.ints .i64 set) z]), (2, .fref [.pay (.rows a) z']), (3, .fref [.pay (.ints .i64 word) z'']), (5, .pay (.ints .i64 []) true), (6, .own 0), (10, .pay (.ints .i64 set) z), (11, .int .i64 set.length), (12, .int .i64 i)], [.arr (.ints .i64 ((set.take i).map fun s => leadG a s word)) ⟨3, false⟩]⟩) (by kernel_rfl) rfl ?_ ?_
  · trivial
  intro i hi _
  simp (config := {implicitDefEqProofs := false, maxSteps := 4000000}) (disch := omega) only [push_cast, c45, Nat.reduceAdd, Nat.reduceSub, Nat.reduceMul, Nat.reduceBEq, Int.reduceToNat, Int.reduceNeg, Int.reduceLE, Int.reduceLT, Int.reduceBEq, Int.reduceBNe, Int.reduceEq, Bool.not_true, Bool.not_false, eq_self, reduceCtorEq]
  refine ⟨fun hlt => ⟨hlt, ?_⟩, fun hge => ?_⟩
  · have hx1 := hs.1 _ (getD_mem hlt)
    refine callW_eq _ _ (f40 a z' z'' _ word hx k hv hx1 hw) ?_
    simp (config := {implicitDefEqProofs := false, maxSteps := 4000000}) (disch := omega) only [push_cast, c45, Nat.reduceAdd, Nat.reduceSub, Nat.reduceMul, Nat.reduceBEq, Int.reduceToNat, Int.reduceNeg, Int.reduceLE, Int.reduceLT, Int.reduceBEq, Int.reduceBNe, Int.reduceEq, Bool.not_true, Bool.not_false, eq_self, reduceCtorEq]
    refine ⟨by simp; omega, hlt, ?_⟩
    rw [List.take_succ_eq_append_getElem hlt, List.map_append]
    simp [hlt]
  · rw [List.take_of_length_le hge]
    have hli : ((set.map fun s => leadG a s word).length) ≤ 60 := by simp; omega
    refine lcallW_eq _ _ _ (f46 _ _ _ _ (by omega)) ?_
    simp (config := {implicitDefEqProofs := false, maxSteps := 4000000}) (disch := omega) only [push_cast, c45, Nat.reduceAdd, Nat.reduceSub, Nat.reduceMul, Nat.reduceBEq, Int.reduceToNat, Int.reduceNeg, Int.reduceLE, Int.reduceLT, Int.reduceBEq, Int.reduceBNe, Int.reduceEq, Bool.not_true, Bool.not_false, eq_self, reduceCtorEq]
    refine lcallW_eq _ _ _ (f47 _ _ _ _ (by rw [sortL_len]; omega)) ?_
    simp (config := {implicitDefEqProofs := false, maxSteps := 4000000}) (disch := omega) only [push_cast, c45, Nat.reduceAdd, Nat.reduceSub, Nat.reduceMul, Nat.reduceBEq, Int.reduceToNat, Int.reduceNeg, Int.reduceLE, Int.reduceLT, Int.reduceBEq, Int.reduceBNe, Int.reduceEq, Bool.not_true, Bool.not_false, eq_self, reduceCtorEq]
    rw [show Lib.compact (sortL (set.map fun s => leadG a s word)) = imageL a set word from imageL_eq hv hs hw]
/- mizmaze/auto.Preimage$1 -/
def c49 : VCfg := ⟨⟨[], [], [], [0, 1, 2, 4, 5, 6, 10, 11, 12, 20]⟩, [], [], []⟩
theorem f49 (a : List (List Int)) (z' z'' zm : Bool) (ms : List Int) (word : List Int) (hx : word.length ≤ 4611686018427387904) (k : Nat) (hv : Vld a k) (hw : ∀ x ∈ word, 0 ≤ x ∧ x < k) :
    ACall Tryz.prog 49 [.pay (.bools (boolsOf a.length ms)) zm, .fref [.pay (.rows a) z'], .fref [.pay (.ints .i64 word) z'']] (fun r objs => r = .own 0 ∧ objs = [.arr (.ints .i64 (preL a (fun x => decide (x ∈ ms)) word)) ⟨3, false⟩]) := by
  have hn := hv.n2
  refine acall_intro (tyP_ok _) c49 2000 [.tmp 4] Tryz.func49 rfl (by rfl) rfl (by kernel_rfl) ?_
  unfold Tryz.f49
  simp (config := {implicitDefEqProofs := false, maxSteps := 4000000}) (disch := omega) only [push_cast, c49, Nat.reduceAdd, Nat.reduceSub, Nat.reduceMul, Nat.reduceBEq, Int.reduceToNat, Int.reduceNeg, Int.reduceLE, Int.reduceLT, Int.reduceBEq, Int.reduceBNe, Int.reduceEq, Bool.not_true, Bool.not_false, eq_self, reduceCtorEq]
  refine awp_upto (tyP_ok _) c49 2000 [0, 1, 2, 4, 5, 10, 11] (a.length) (fun _ => True) (fun i => ⟨27, [(0, .pay (.bools (boolsOf a.length ms)) zm), (1, .fref [.pay (.rows a) z']), (2, .fref [.pay (.ints .i64 word) z'']), (4, .pay (.ints .i64 []) true), (5, .own 0), (10, .int .i64 a.length), (11, .int .i64 i)], [.arr (.ints .i64 (fromTo i fun s => decide (leadG a s word ∈ ms))) ⟨3, false⟩]⟩) (by kernel_rfl) rfl ?_ ?_
  · trivial
  intro i hi _
  simp (config := {implicitDefEqProofs := false, maxSteps := 4000000}) (disch := omega) only [push_cast, c49, Nat.reduceAdd, Nat.reduceSub, Nat.reduceMul, Nat.reduceBEq, Int.reduceToNat, Int.reduceNeg, Int.reduceLE, Int.reduceLT, Int.reduceBEq, Int.reduceBNe, Int.reduceEq, Bool.not_true, Bool.not_false, eq_self, reduceCtorEq]
  refine ⟨fun hlt => ?_, fun hge => by rw [show i = a.length by omega]; rfl⟩
  refine callW_eq _ _ (f40 a z' z'' _ word hx k hv (by omega) hw) ?_
  simp (config := {implicitDefEqProofs := false, maxSteps := 4000000}) (disch := omega) only [push_cast, c49, Nat.reduceAdd, Nat.reduceSub, Nat.reduceMul, Nat.reduceBEq, Int.reduceToNat, Int.reduceNeg, Int.reduceLE, Int.reduceLT, Int.reduceBEq, Int.reduceBNe, Int.reduceEq, Bool.not_true, Bool.not_false, eq_self, reduceCtorEq]
  have hl := hv.lead word (s := i) (by omega) (by omega) hw
  rw [boolsOf_len, boolsOf_get hl.1 hl.2, fromTo_succ]
  have hfl := fromTo_len i fun s => decide (leadG a s word ∈ ms)
  simp only [decide_eq_true_eq]
  refine ⟨hl, fun hm => ⟨by omega, hlt, by rw [if_pos hm]⟩, fun hm => ⟨hlt, by rw [if_neg (by simpa using hm), List.append_nil]⟩⟩
/- mizmaze/auto.sets -/
def c48 : VCfg := ⟨⟨[], [], [], [0, 1, 2, 3, 4, 8, 9, 10, 12, 13, 17, 32, 33, 34, 35]⟩, [], [], []⟩
theorem f48 (a : List (List Int)) (z z' z'' : Bool) (set word : List Int) (hl : a.length ≤ 4611686018427387904) (hl2 : ∀ r ∈ a, r.length ≤ 4611686018427387904) (hx : set.length ≤ 4611686018427387904) (hw : word.length ≤ 4611686018427387904) (g : FuncId) (caps : List AV) (hc : NoH caps) (L : List Int) (ai : AI)
    (hg : ∀ k, Vld a k → setOk a.length set → (∀ x ∈ word, 0 ≤ x ∧ x < k) → ∀ zm, ACall Tryz.prog g (.pay (.bools (boolsOf a.length set)) zm :: caps) (fun r objs => r = .own 0 ∧ objs = [.arr (.ints .i64 L) ai])) :
    ACall Tryz.prog 48 [.agg [.pay (.rows a) z], .pay (.ints .i64 set) z', .pay (.ints .i64 word) z'', .clo g caps] (fun r objs => ∃ l e nz, SetsR a set word L l e ∧ r = .tup [.pay (.ints .i64 l) nz, .int .i64 e] ∧ objs = []) := by
  suffices h : ACall Tryz.prog 48 [.agg [.pay (.rows a) z], .pay (.ints .i64 set) z', .pay (.ints .i64 word) z'', .clo g caps] (fun r objs => ∃ l e, SetsR a set word L l e ∧ ((∃ nz, r = .tup [.pay (.ints .i64 l) nz, .int .i64 e] ∧ objs = []) ∨ (r = .tup [.own 0, .int .i64 e] ∧ objs = [.arr (.ints .i64 l) ai]))) by
    refine h.frz ?_
    rintro r objs ⟨l, e, h1, ⟨nz, rfl, rfl⟩ | ⟨rfl, rfl⟩⟩
    · exact ⟨[], _, 0, rfl, l, e, nz, h1, rfl, rfl⟩
    · exact ⟨[0], _, 1, rfl, l, e, ai.nz, h1, rfl, rfl⟩
  refine acall_intro (tyP_ok _) c48 2000 [.tmp 8, .tmp 9] Tryz.func48 rfl (by rfl) rfl (by kernel_rfl) ?_
  unfold Tryz.f48
  simp (config := {implicitDefEqProofs := false, maxSteps := 4000000}) (disch := omega) only [push_cast, c48, hc.hs, hc.mp, hc.no2, hc.no3, Nat.reduceAdd, Nat.reduceSub, Nat.reduceMul, Nat.reduceBEq, Int.reduceToNat, Int.reduceNeg, Int.reduceLE, Int.reduceLT, Int.reduceBEq, Int.reduceBNe, Int.reduceEq, Bool.not_true, Bool.not_false, eq_self, reduceCtorEq]
  refine callW_eq _ _ (f11 a z hl hl2) ?_
  simp (config := {implicitDefEqProofs := false, maxSteps := 4000000}) (disch := omega) only [push_cast, c48, hc.hs, hc.mp, hc.no2, hc.no3, Nat.reduceAdd, Nat.reduceSub, Nat.reduceMul, Nat.reduceBEq, Int.reduceToNat, Int.reduceNeg, Int.reduceLE, Int.reduceLT, Int.reduceBEq, Int.reduceBNe, Int.reduceEq, Bool.not_true, Bool.not_false, eq_self, reduceCtorEq]
  refine ⟨fun hv => ⟨[], 1, .inl ⟨hv, rfl, rfl⟩, .inl ⟨true, ⟨rfl, rfl⟩, rfl⟩⟩, fun hv => ?_⟩
  have hV := vldB_iff.1 hv
  have hn := hV.n2
  have hn0 := hV.n1
  refine callW_eq _ _ (f64 a z z' set hx) ?_
  simp (config := {implicitDefEqProofs := false, maxSteps := 4000000}) (disch := omega) only [push_cast, c48, hc.hs, hc.mp, hc.no2, hc.no3, Nat.reduceAdd, Nat.reduceSub, Nat.reduceMul, Nat.reduceBEq, Int.reduceToNat, Int.reduceNeg, Int.reduceLE, Int.reduceLT, Int.reduceBEq, Int.reduceBNe, Int.reduceEq, Bool.not_true, Bool.not_false, eq_self, reduceCtorEq]
  refine ⟨fun hs => ⟨[], 2, .inr (.inl ⟨hv, .inl hs, rfl, rfl⟩), .inl ⟨true, ⟨rfl, rfl⟩, rfl⟩⟩, fun hs => ?_⟩
  refine callW_eq _ _ (f39 a z z'' word (by omega) hw) ?_
  simp (config := {implicitDefEqProofs := false, maxSteps := 4000000}) (disch := omega) only [push_cast, c48, hc.hs, hc.mp, hc.no2, hc.no3, Nat.reduceAdd, Nat.reduceSub, Nat.reduceMul, Nat.reduceBEq, Int.reduceToNat, Int.reduceNeg, Int.reduceLE, Int.reduceLT, Int.reduceBEq, Int.reduceBNe, Int.reduceEq, Bool.not_true, Bool.not_false, eq_self, reduceCtorEq]
  refine ⟨fun hw => ⟨[], 2, .inr (.inl ⟨hv, .inr hw, rfl, rfl⟩), .inl ⟨true, ⟨rfl, rfl⟩, rfl⟩⟩, fun hwd => ⟨by omega, ?_⟩⟩
  have hS : setOk a.length set := of_decide_eq_true hs
  have hsl := hS.len
  refine awp_upto (tyP_ok _) c48 2000 [1, 3, 8, 9, 10, 32, 33, 34] (set.length) (fun _ => True) (fun i => ⟨45, [(1, .pay (.ints .i64 set) z'), (3, .clo g caps), (8, .pay (.ints .i64 []) true), (9, .int .i64 0), (10, .own 0), (32, .pay (.ints .i64 set) z'), (33, .int .i64 set.length), (34, .int .i64 i)], [.arr (.bools (boolsOf a.length (set.take i))) ⟨4, false⟩]⟩) (by kernel_rfl) ?_ ?_ ?_
  · rw [List.take_zero, boolsOf_nil]; simp (config := {implicitDefEqProofs := false, maxSteps := 4000000}) (disch := omega) only [push_cast, c48, hc.hs, hc.mp, hc.no2, hc.no3, Nat.reduceAdd, Nat.reduceSub, Nat.reduceMul, Nat.reduceBEq, Int.reduceToNat, Int.reduceNeg, Int.reduceLE, Int.reduceLT, Int.reduceBEq, Int.reduceBNe, Int.reduceEq, Bool.not_true, Bool.not_false, eq_self, reduceCtorEq]
  · trivial
  intro i hi _
  simp (config := {implicitDefEqProofs := false, maxSteps := 4000000}) (disch := omega) only [push_cast, c48, hc.hs, hc.mp, hc.no2, hc.no3, boolsOf_len, Nat.reduceAdd, Nat.reduceSub, Nat.reduceMul, Nat.reduceBEq, Int.reduceToNat, Int.reduceNeg, Int.reduceLE, Int.reduceLT, Int.reduceBEq, Int.reduceBNe, Int.reduceEq, Bool.not_true, Bool.not_false, eq_self, reduceCtorEq]
  refine ⟨fun hlt => ?_, fun hge => ?_⟩
  · have hx1 := hS.1 _ (getD_mem hlt)
    refine ⟨hlt, hx1, hlt, ?_⟩
    rw [boolsOf_set hx1.1 hx1.2, List.take_succ_eq_append_getElem hlt]
    simp [List.getD, hlt]
  · rw [List.take_of_length_le hge]
    refine callW_eq _ _ (hg _ hV hS (wordB_iff.1 hwd).2 false) ?_
    simp (config := {implicitDefEqProofs := false, maxSteps := 4000000}) (disch := omega) only [push_cast, c48, hc.hs, hc.mp, hc.no2, hc.no3, Nat.reduceAdd, Nat.reduceSub, Nat.reduceMul, Nat.reduceBEq, Int.reduceToNat, Int.reduceNeg, Int.reduceLE, Int.reduceLT, Int.reduceBEq, Int.reduceBNe, Int.reduceEq, Bool.not_true, Bool.not_false, eq_self, reduceCtorEq]
    exact ⟨L, 0, .inr (.inr ⟨hv, hs, hwd, rfl, rfl⟩), .inr ⟨rfl, rfl⟩⟩
/- mizmaze/auto.Image -/
def c17 : VCfg := ⟨⟨[], [], [], [0, 1, 2, 3, 4, 5, 6, 7, 8]⟩, [], [], []⟩
theorem f17 (a : List (List Int)) (z z' z'' : Bool) (set word : List Int) (hl : a.length ≤ 4611686018427387904) (hl2 : ∀ r ∈ a, r.length ≤ 4611686018427387904) (hx : set.length ≤ 4611686018427387904) (hw : word.length ≤ 4611686018427387904) :
    ACall Tryz.prog 17 [.agg [.pay (.rows a) z], .pay (.ints .i64 set) z', .pay (.ints .i64 word) z''] (fun r objs => ∃ l e nz, SetsR a set word (imageL a set word) l e ∧ r = .tup [.pay (.ints .i64 l) nz, .int .i64 e] ∧ objs = []) := by
  refine acall_intro (tyP_ok _) c17 2000 [.tmp 6, .tmp 7] Tryz.func17 rfl (by rfl) rfl (by kernel_rfl) ?_
  unfold Tryz.f17
  simp (config := {implicitDefEqProofs := false, maxSteps := 4000000}) (disch := omega) only [push_cast, c17, Nat.reduceAdd, Nat.reduceSub, Nat.reduceMul, Nat.reduceBEq, Int.reduceToNat, Int.reduceNeg, Int.reduceLE, Int.reduceLT, Int.reduceBEq, Int.reduceBNe, Int.reduceEq, Bool.not_true, Bool.not_false, eq_self, reduceCtorEq]
  refine callW_rel (f48 a z z' z'' set word hl hl2 hx hw 45 _ (NoH.of rfl rfl) (imageL a set word) ⟨3, false⟩ fun k hv hs hwd zm => f45 a z' z z'' _ set word hw k hv hs hwd) ?_
  rintro R O ⟨l, e, nz, h, rfl, rfl⟩
  simp (config := {implicitDefEqProofs := false, maxSteps := 4000000}) (disch := omega) only [push_cast, c17, Nat.reduceAdd, Nat.reduceSub, Nat.reduceMul, Nat.reduceBEq, Int.reduceToNat, Int.reduceNeg, Int.reduceLE, Int.reduceLT, Int.reduceBEq, Int.reduceBNe, Int.reduceEq, Bool.not_true, Bool.not_false, eq_self, reduceCtorEq]
  exact ⟨l, e, nz, h, ⟨rfl, rfl⟩, rfl⟩
/- mizmaze/auto.Preimage -/
def c18 : VCfg := ⟨⟨[], [], [], [0, 1, 2, 3, 5, 6, 7, 8]⟩, [], [], []⟩
theorem f18 (a : List (List Int)) (z z' z'' : Bool) (set word : List Int) (hl : a.length ≤ 4611686018427387904) (hl2 : ∀ r ∈ a, r.length ≤ 4611686018427387904) (hx : set.length ≤ 4611686018427387904) (hw : word.length ≤ 4611686018427387904) :
    ACall Tryz.prog 18 [.agg [.pay (.rows a) z], .pay (.ints .i64 set) z', .pay (.ints .i64 word) z''] (fun r objs => ∃ l e nz, SetsR a set word (preL a (fun x => decide (x ∈ set)) word) l e ∧ r = .tup [.pay (.ints .i64 l) nz, .int .i64 e] ∧ objs = []) := by
  refine acall_intro (tyP_ok _) c18 2000 [.tmp 6, .tmp 7] Tryz.func18 rfl (by rfl) rfl (by kernel_rfl) ?_
  unfold Tryz.f18
  simp (config := {implicitDefEqProofs := false, maxSteps := 4000000}) (disch := omega) only [push_cast, c18, Nat.reduceAdd, Nat.reduceSub, Nat.reduceMul, Nat.reduceBEq, Int.reduceToNat, Int.reduceNeg, Int.reduceLE, Int.reduceLT, Int.reduceBEq, Int.reduceBNe, Int.reduceEq, Bool.not_true, Bool.not_false, eq_self, reduceCtorEq]
  refine callW_rel (f48 a z z' z'' set word hl hl2 hx hw 49 _ (NoH.of rfl rfl) (preL a (fun x => decide (x ∈ set)) word) ⟨3, false⟩ fun k hv hs hwd zm => f49 a z z'' zm set word hw k hv hwd) ?_
  rintro R O ⟨l, e, nz, h, rfl, rfl⟩
  simp (config := {implicitDefEqProofs := false, maxSteps := 4000000}) (disch := omega) only [push_cast, c18, Nat.reduceAdd, Nat.reduceSub, Nat.reduceMul, Nat.reduceBEq, Int.reduceToNat, Int.reduceNeg, Int.reduceLE, Int.reduceLT, Int.reduceBEq, Int.reduceBNe, Int.reduceEq, Bool.not_true, Bool.not_false, eq_self, reduceCtorEq]
  exact ⟨l, e, nz, h, ⟨rfl, rfl⟩, rfl⟩
/- mizmaze/auto.Run -/
def c10 : VCfg := ⟨⟨[], [], [], [0, 1, 2, 3, 6, 7, 8, 12]⟩, [], [], []⟩
theorem f10 (a : List (List Int)) (z z' : Bool) (s : Int) (word : List Int) (hl : a.length ≤ 4611686018427387904) (hl2 : ∀ r ∈ a, r.length ≤ 4611686018427387904) (hw : word.length ≤ 4611686018427387904) :
    ACall Tryz.prog 10 [.agg [.pay (.rows a) z], .int .i64 s, .pay (.ints .i64 word) z'] (fun r objs => ∃ t e, RunR a s word t e ∧ r = .tup [.int .i64 t, .int .i64 e] ∧ objs = []) := by
  refine acall_intro (tyP_ok _) c10 2000 [.tmp 6, .tmp 7] Tryz.func10 rfl (by rfl) rfl (by kernel_rfl) ?_
  unfold Tryz.f10
  simp (config := {implicitDefEqProofs := false, maxSteps := 4000000}) (disch := omega) only [push_cast, c10, Nat.reduceAdd, Nat.reduceSub, Nat.reduceMul, Nat.reduceBEq, Int.reduceToNat, Int.reduceNeg, Int.reduceLE, Int.reduceLT, Int.reduceBEq, Int.reduceBNe, Int.reduceEq, Bool.not_true, Bool.not_false, eq_self, reduceCtorEq]
  refine callW_eq _ _ (f11 a z hl hl2) ?_
  simp (config := {implicitDefEqProofs := false, maxSteps := 4000000}) (disch := omega) only [push_cast, c10, Nat.reduceAdd, Nat.reduceSub, Nat.reduceMul, Nat.reduceBEq, Int.reduceToNat, Int.reduceNeg, Int.reduceLE, Int.reduceLT, Int.reduceBEq, Int.reduceBNe, Int.reduceEq, Bool.not_true, Bool.not_false, eq_self, reduceCtorEq]
  refine ⟨fun hv => ⟨0, 1, .inl ⟨hv, rfl, rfl⟩, rfl, rfl⟩, fun hv => ?_⟩
  have hV := vldB_iff.1 hv
  have hn0 := hV.n1
  refine callW_eq _ _ (f38 a z s) ?_
  simp (config := {implicitDefEqProofs := false, maxSteps := 4000000}) (disch := omega) only [push_cast, c10, Nat.reduceAdd, Nat.reduceSub, Nat.reduceMul, Nat.reduceBEq, Int.reduceToNat, Int.reduceNeg, Int.reduceLE, Int.reduceLT, Int.reduceBEq, Int.reduceBNe, Int.reduceEq, Bool.not_true, Bool.not_false, eq_self, reduceCtorEq]
  refine ⟨fun hs => ⟨0, 2, .inr (.inl ⟨hv, .inl hs, rfl, rfl⟩), rfl, rfl⟩, fun hs => ?_⟩
  refine callW_eq _ _ (f39 a z z' word (by omega) hw) ?_
  simp (config := {implicitDefEqProofs := false, maxSteps := 4000000}) (disch := omega) only [push_cast, c10, Nat.reduceAdd, Nat.reduceSub, Nat.reduceMul, Nat.reduceBEq, Int.reduceToNat, Int.reduceNeg, Int.reduceLE, Int.reduceLT, Int.reduceBEq, Int.reduceBNe, Int.reduceEq, Bool.not_true, Bool.not_false, eq_self, reduceCtorEq]
  refine ⟨fun hwd => ⟨0, 2, .inr (.inl ⟨hv, .inr hwd, rfl, rfl⟩), rfl, rfl⟩, fun hwd => ?_⟩
  refine callW_eq _ _ (f40 a z z' s word hw _ hV hs (wordB_iff.1 hwd).2) ?_
  simp (config := {implicitDefEqProofs := false, maxSteps := 4000000}) (disch := omega) only [push_cast, c10, Nat.reduceAdd, Nat.reduceSub, Nat.reduceMul, Nat.reduceBEq, Int.reduceToNat, Int.reduceNeg, Int.reduceLE, Int.reduceLT, Int.reduceBEq, Int.reduceBNe, Int.reduceEq, Bool.not_true, Bool.not_false, eq_self, reduceCtorEq]
  exact ⟨_, 0, .inr (.inr ⟨hv, hs, hwd, rfl, rfl⟩), rfl, rfl⟩
end Go.AM
end

/-! text Ua3 -/
section
namespace Go.AM
open Go Go.Proofs
/- mizmaze/mizmazeref01.Below -/
def c33 : VCfg := ⟨⟨[], [], [], [0, 1, 4, 5, 9, 24]⟩, [], [], []⟩
theorem f33 (l : List Int) (z : Bool) (n : Int) (hx : l.length ≤ 4611686018427387904) :
    ACall Tryz.prog 33 [.pay (.ints .i64 l) z, .int .i64 n] (fun r objs => r = .bool (belowB l n) ∧ objs = []) := by
  refine acall_intro (tyP_ok _) c33 2000 [.tmp 4] Tryz.func33 rfl (by rfl) rfl (by kernel_rfl) ?_
  unfold Tryz.f33
  simp (config := {implicitDefEqProofs := false, maxSteps := 4000000}) (disch := omega) only [push_cast, c33, Nat.reduceAdd, Nat.reduceSub, Nat.reduceMul, Nat.reduceBEq, Int.reduceToNat, Int.reduceNeg, Int.reduceLE, Int.reduceLT, Int.reduceBEq, Int.reduceBNe, Int.reduceEq, Bool.not_true, Bool.not_false, eq_self, reduceCtorEq]
  refine awp_upto (tyP_ok _) c33 2000 [0, 1, 4, 5] (l.length) (fun i => ∀ j, j < i → 0 ≤ l.getD j 0 ∧ l.getD j 0 < n) (fun i => ⟨25, [(0, .pay (.ints .i64 l) z), (1, .int .i64 n), (4, .bool false), (5, .int .i64 i)], []⟩) (by kernel_rfl) rfl ?_ ?_
  · exact fun j hj => by omega
  intro i hi hr
  simp (config := {implicitDefEqProofs := false, maxSteps := 4000000}) (disch := omega) only [push_cast, c33, Nat.reduceAdd, Nat.reduceSub, Nat.reduceMul, Nat.reduceBEq, Int.reduceToNat, Int.reduceNeg, Int.reduceLE, Int.reduceLT, Int.reduceBEq, Int.reduceBNe, Int.reduceEq, Bool.not_true, Bool.not_false, eq_self, reduceCtorEq]
  refine ⟨fun hlt => ⟨hlt, fun h => (belowB_false (getD_mem hlt) (.inl h)).symm, fun h => ⟨hlt, fun h2 => (belowB_false (getD_mem hlt) (.inr h2)).symm, fun h2 => ⟨hlt, upto_succ hr ⟨h, h2⟩⟩⟩⟩, fun hge => (belowB_iff.2 (all_of_getD (p := fun x => 0 ≤ x ∧ x < n) fun j hj => hr j (by omega))).symm⟩
/- mizmaze/mizmazeref01.Valid -/
def c12 : VCfg := ⟨⟨[], [], [], [0, 1, 2, 3, 4, 29, 32, 56]⟩, [(7, (.op 0 .loose (.op 1 .loose (.op 2 .loose (.op 3 .loose (.op 4 .loose (.op 5 .loose (.op 6 .loose (.op 7 .loose (.op 8 .loose (.op 9 .loose (.op 10 .loose (.op 11 .loose (.op 12 .loose (.op 13 .loose (.op 14 .loose (.op 15 .loose (.op 16 .loose (.op 17 .loose (.op 18 .loose (.op 19 .eff (.op 20 .loose (.op 21 .loose .nil)))))))))))))))))))))))], [], []⟩
theorem f12 (a : List (List Int)) (z : Bool) (hl : a.length ≤ 4611686018427387904) (hl2 : ∀ r ∈ a, r.length ≤ 4611686018427387904) :
    ACall Tryz.prog 12 [.agg [.pay (.rows a) z]] (fun r objs => r = .bool (vldB a) ∧ objs = []) := by
  refine acall_intro (tyP_ok _) c12 2000 [.tmp 2] Tryz.func12 rfl (by rfl) rfl (by kernel_rfl) ?_
  unfold Tryz.f12
  simp (config := {implicitDefEqProofs := false, maxSteps := 4000000}) (disch := omega) only [push_cast, c12, Nat.reduceAdd, Nat.reduceSub, Nat.reduceMul, Nat.reduceBEq, Int.reduceToNat, Int.reduceNeg, Int.reduceLE, Int.reduceLT, Int.reduceBEq, Int.reduceBNe, Int.reduceEq, Bool.not_true, Bool.not_false, eq_self, reduceCtorEq]
  refine ⟨fun h => vldB_false fun hv => by have := hv.n1; omega, fun h => ⟨fun h2 => vldB_false fun hv => by have := hv.n2; omega, fun h2 => ⟨by omega, fun h3 => vldB_false fun hv => by have := hv.k1; omega, fun h3 => ⟨by omega, fun h4 => vldB_false fun hv => by have := hv.k2; omega, fun h4 => ?_⟩⟩⟩⟩
  refine awp_upto (tyP_ok _) c12 2000 [1, 2, 3, 4] (a.length) (fun i => ∀ j, j < i → (a.getD j []).length = (a.getD 0 []).length ∧ belowB (a.getD j []) a.length = true) (fun i => ⟨57, [(1, .fref [.pay (.rows a) z]), (2, .bool false), (3, .int .i64 a.length), (4, .int .i64 i)], []⟩) (by kernel_rfl) rfl ?_ ?_
  · exact fun j hj => by omega
  intro i hi hr
  simp (config := {implicitDefEqProofs := false, maxSteps := 4000000}) (disch := omega) only [push_cast, c12, Nat.reduceAdd, Nat.reduceSub, Nat.reduceMul, Nat.reduceBEq, Int.reduceToNat, Int.reduceNeg, Int.reduceLE, Int.reduceLT, Int.reduceBEq, Int.reduceBNe, Int.reduceEq, Bool.not_true, Bool.not_false, eq_self, reduceCtorEq]
  refine ⟨fun hlt => ⟨hlt, by omega, fun h => vldB_false fun hv => h (hv.row _ (getD_mem' hlt)).1, fun h => ⟨hlt, ?_⟩⟩, fun hge => vldB_true (by omega) (by omega) (by omega) (by omega) fun j hj => hr j (by omega)⟩
  refine callW_eq _ _ (f33 _ false _ (hl2 _ (getD_mem' hlt))) ?_
  simp (config := {implicitDefEqProofs := false, maxSteps := 4000000}) (disch := omega) only [push_cast, c12, Nat.reduceAdd, Nat.reduceSub, Nat.reduceMul, Nat.reduceBEq, Int.reduceToNat, Int.reduceNeg, Int.reduceLE, Int.reduceLT, Int.reduceBEq, Int.reduceBNe, Int.reduceEq, Bool.not_true, Bool.not_false, eq_self, reduceCtorEq]
  exact ⟨fun hb => vldB_false fun hv => absurd (belowB_iff.2 (hv.row _ (getD_mem' hlt)).2) (by rw [hb]; simp), fun hb => ⟨hlt, upto_succ hr ⟨h, hb⟩⟩⟩
/- mizmaze/mizmazeref01.Letters -/
def c44 : VCfg := ⟨⟨[], [], [], [0, 1, 2]⟩, [], [], []⟩
theorem f44 (a : List (List Int)) (z : Bool) (h : 0 < a.length) : ACall Tryz.prog 44 [.agg [.pay (.rows a) z]] (fun r objs => r = .int .i64 (a.getD 0 []).length ∧ objs = []) := by
  refine acall_intro (tyP_ok _) c44 2000 [.tmp 2] Tryz.func44 rfl (by rfl) rfl (by kernel_rfl) ?_
  unfold Tryz.f44
  simp (config := {implicitDefEqProofs := false, maxSteps := 4000000}) (disch := omega) only [push_cast, c44, Nat.reduceAdd, Nat.reduceSub, Nat.reduceMul, Nat.reduceBEq, Int.reduceToNat, Int.reduceNeg, Int.reduceLE, Int.reduceLT, Int.reduceBEq, Int.reduceBNe, Int.reduceEq, Bool.not_true, Bool.not_false, eq_self, reduceCtorEq]
  exact h
/- mizmaze/mizmazeref01.State -/
def c13 : VCfg := ⟨⟨[], [], [], [0, 1, 2, 4]⟩, [], [], []⟩
theorem f13 (a : List (List Int)) (z : Bool) (s : Int) :
    ACall Tryz.prog 13 [.agg [.pay (.rows a) z], .int .i64 s] (fun r objs => r = .bool (decide (0 ≤ s ∧ s < a.length)) ∧ objs = []) := by
  refine acall_intro (tyP_ok _) c13 2000 [.tmp 4] Tryz.func13 rfl (by rfl) rfl (by kernel_rfl) ?_
  unfold Tryz.f13
  simp (config := {implicitDefEqProofs := false, maxSteps := 4000000}) (disch := omega) only [push_cast, c13, Nat.reduceAdd, Nat.reduceSub, Nat.reduceMul, Nat.reduceBEq, Int.reduceToNat, Int.reduceNeg, Int.reduceLE, Int.reduceLT, Int.reduceBEq, Int.reduceBNe, Int.reduceEq, Bool.not_true, Bool.not_false, eq_self, reduceCtorEq]
  exact ⟨fun h => by simp [h], fun h => by simp [show ¬ 0 ≤ s by omega]⟩
/- mizmaze/mizmazeref01.Word -/
def c14 : VCfg := ⟨⟨[], [], [], [0, 1, 2, 4]⟩, [], [], []⟩
theorem f14 (a : List (List Int)) (z z' : Bool) (w : List Int) (ha : 0 < a.length) (hw : w.length ≤ 4611686018427387904) :
    ACall Tryz.prog 14 [.agg [.pay (.rows a) z], .pay (.ints .i64 w) z'] (fun r objs => r = .bool (wordB (a.getD 0 []).length w) ∧ objs = []) := by
  refine acall_intro (tyP_ok _) c14 2000 [.tmp 4] Tryz.func14 rfl (by rfl) rfl (by kernel_rfl) ?_
  unfold Tryz.f14
  simp (config := {implicitDefEqProofs := false, maxSteps := 4000000}) (disch := omega) only [push_cast, c14, Nat.reduceAdd, Nat.reduceSub, Nat.reduceMul, Nat.reduceBEq, Int.reduceToNat, Int.reduceNeg, Int.reduceLE, Int.reduceLT, Int.reduceBEq, Int.reduceBNe, Int.reduceEq, Bool.not_true, Bool.not_false, eq_self, reduceCtorEq]
  refine ⟨fun h => ?_, fun h => by simp [wordB, show ¬ w.length ≤ 40000 by omega]⟩
  refine callW_eq _ _ (f44 a z ha) ?_
  simp (config := {implicitDefEqProofs := false, maxSteps := 4000000}) (disch := omega) only [push_cast, c14, Nat.reduceAdd, Nat.reduceSub, Nat.reduceMul, Nat.reduceBEq, Int.reduceToNat, Int.reduceNeg, Int.reduceLE, Int.reduceLT, Int.reduceBEq, Int.reduceBNe, Int.reduceEq, Bool.not_true, Bool.not_false, eq_self, reduceCtorEq]
  refine callW_eq _ _ (f33 w z' _ hw) ?_
  simp (config := {implicitDefEqProofs := false, maxSteps := 4000000}) (disch := omega) only [push_cast, c14, Nat.reduceAdd, Nat.reduceSub, Nat.reduceMul, Nat.reduceBEq, Int.reduceToNat, Int.reduceNeg, Int.reduceLE, Int.reduceLT, Int.reduceBEq, Int.reduceBNe, Int.reduceEq, Bool.not_true, Bool.not_false, eq_self, reduceCtorEq]
  simp [wordB, show w.length ≤ 40000 by omega]
/- mizmaze/mizmazeref01.Set -/
def c19 : VCfg := ⟨⟨[], [], [], [0, 1, 2, 4, 5, 19, 23, 35]⟩, [(6, (.op 0 .loose (.op 1 .loose (.op 2 .loose (.op 3 .loose (.op 4 .loose (.op 5 .loose (.op 6 .loose (.op 7 .loose (.op 8 .loose (.op 9 .loose .nil)))))))))))], [], []⟩
theorem f19 (a : List (List Int)) (z z' : Bool) (set : List Int) (hl : a.length ≤ 4611686018427387904) (hx : set.length ≤ 4611686018427387904) :
    ACall Tryz.prog 19 [.agg [.pay (.rows a) z], .pay (.ints .i64 set) z'] (fun r objs => r = .bool (setB a.length set) ∧ objs = []) := by
  refine acall_intro (tyP_ok _) c19 2000 [.tmp 4] Tryz.func19 rfl (by rfl) rfl (by kernel_rfl) ?_
  unfold Tryz.f19
  simp (config := {implicitDefEqProofs := false, maxSteps := 4000000}) (disch := omega) only [push_cast, c19, Nat.reduceAdd, Nat.reduceSub, Nat.reduceMul, Nat.reduceBEq, Int.reduceToNat, Int.reduceNeg, Int.reduceLE, Int.reduceLT, Int.reduceBEq, Int.reduceBNe, Int.reduceEq, Bool.not_true, Bool.not_false, eq_self, reduceCtorEq]
  refine ⟨fun h => ?_, fun h => ?_⟩
  · symm; rw [setB, decide_eq_false_iff_not]; exact fun hs => by have := hs.len; omega
  refine callW_eq _ _ (f33 set z' _ hx) ?_
  simp (config := {implicitDefEqProofs := false, maxSteps := 4000000}) (disch := omega) only [push_cast, c19, Nat.reduceAdd, Nat.reduceSub, Nat.reduceMul, Nat.reduceBEq, Int.reduceToNat, Int.reduceNeg, Int.reduceLE, Int.reduceLT, Int.reduceBEq, Int.reduceBNe, Int.reduceEq, Bool.not_true, Bool.not_false, eq_self, reduceCtorEq]
  refine ⟨setB_belowF, fun hb => ?_⟩
  have hB := belowB_iff.1 hb
  by_cases h0 : set = []
  · subst h0
    refine awp_upto (tyP_ok _) c19 2000 [1, 2, 4, 5] (0) (fun _ => True) (fun i => ⟨36, [(1, .pay (.ints .i64 []) z'), (2, .fref [.pay (.rows a) z]), (4, .bool false), (5, .int .i64 1)], []⟩) (by kernel_rfl) rfl ?_ ?_
    · trivial
    intro i hi _
    simp (config := {implicitDefEqProofs := false, maxSteps := 4000000}) (disch := omega) only [push_cast, c19, Nat.reduceAdd, Nat.reduceSub, Nat.reduceMul, Nat.reduceBEq, Int.reduceToNat, Int.reduceNeg, Int.reduceLE, Int.reduceLT, Int.reduceBEq, Int.reduceBNe, Int.reduceEq, Bool.not_true, Bool.not_false, eq_self, reduceCtorEq]
    exact setB_true fun j hj => by simp at hj
  have hp : 0 < set.length := List.length_pos_iff.2 h0
  refine awp_upto (tyP_ok _) c19 2000 [1, 2, 4, 5] (set.length - 1) (fun i => ∀ j, j < i + 1 → 0 < j → set.getD (j - 1) 0 < set.getD j 0) (fun i => ⟨36, [(1, .pay (.ints .i64 set) z'), (2, .fref [.pay (.rows a) z]), (4, .bool false), (5, .int .i64 (i + 1 : Nat))], []⟩) (by kernel_rfl) rfl ?_ ?_
  · exact fun j hj h => by omega
  intro i hi hr
  simp (config := {implicitDefEqProofs := false, maxSteps := 4000000}) (disch := omega) only [push_cast, c19, Nat.reduceAdd, Nat.reduceSub, Nat.reduceMul, Nat.reduceBEq, Int.reduceToNat, Int.reduceNeg, Int.reduceLE, Int.reduceLT, Int.reduceBEq, Int.reduceBNe, Int.reduceEq, Bool.not_true, Bool.not_false, eq_self, reduceCtorEq]
  have e1 : ((i : Int) + 1).toNat = i + 1 := by omega
  have e2 : ((i : Int) + 1 - 1).toNat = i := by omega
  rw [e1, e2]
  refine ⟨fun hlt => ⟨by omega, by omega, fun hbad => setB_bad2 (j := i + 1) (by omega) (by omega) (by simpa using hbad), fun hok => ⟨by omega, upto_succ hr fun _ => by simpa using hok⟩⟩, fun hge => setB_true fun j hj => ⟨hB _ (getD_mem hj), fun h => hr j (by omega) h⟩⟩
/- mizmaze/mizmazeref01.Run -/
def c15 : VCfg := ⟨⟨[], [], [], [0, 1, 2, 3, 6, 7, 11]⟩, [(4, (.op 0 .loose (.op 1 .loose (.op 2 .loose (.op 3 .loose (.op 4 .loose (.op 5 .loose (.op 6 .loose (.op 7 .loose (.op 8 .loose (.op 9 .loose (.op 10 .loose (.op 11 .loose .nil)))))))))))))], [], []⟩
theorem f15 (a : List (List Int)) (z z' : Bool) (s : Int) (word : List Int) (hx : word.length ≤ 4611686018427387904) (k : Nat) (hv : Vld a k) (hs : 0 ≤ s ∧ s < a.length) (hw : ∀ x ∈ word, 0 ≤ x ∧ x < k) :
    ACall Tryz.prog 15 [.agg [.pay (.rows a) z], .int .i64 s, .pay (.ints .i64 word) z'] (fun r objs => r = .int .i64 (leadG a s word) ∧ objs = []) := by
  refine acall_intro (tyP_ok _) c15 2000 [.tmp 6] Tryz.func15 rfl (by rfl) rfl (by kernel_rfl) ?_
  unfold Tryz.f15
  simp (config := {implicitDefEqProofs := false, maxSteps := 4000000}) (disch := omega) only [push_cast, c15, Nat.reduceAdd, Nat.reduceSub, Nat.reduceMul, Nat.reduceBEq, Int.reduceToNat, Int.reduceNeg, Int.reduceLE, Int.reduceLT, Int.reduceBEq, Int.reduceBNe, Int.reduceEq, Bool.not_true, Bool.not_false, eq_self, reduceCtorEq]
  refine awp_upto (tyP_ok _) c15 2000 [1, 2, 3, 6, 7] (word.length) (fun _ => True) (fun i => ⟨26, [(1, .int .i64 (leadG a s (word.take i))), (2, .pay (.ints .i64 word) z'), (3, .fref [.pay (.rows a) z]), (6, .int .i64 0), (7, .int .i64 i)], []⟩) (by kernel_rfl) rfl ?_ ?_
  · trivial
  intro i hi _
  simp (config := {implicitDefEqProofs := false, maxSteps := 4000000}) (disch := omega) only [push_cast, c15, Nat.reduceAdd, Nat.reduceSub, Nat.reduceMul, Nat.reduceBEq, Int.reduceToNat, Int.reduceNeg, Int.reduceLE, Int.reduceLT, Int.reduceBEq, Int.reduceBNe, Int.reduceEq, Bool.not_true, Bool.not_false, eq_self, reduceCtorEq]
  refine ⟨fun hlt => ?_, fun hge => by rw [List.take_of_length_le hge]⟩
  have hl := hv.lead (word.take i) hs.1 hs.2 fun x hx => hw x (List.mem_of_mem_take hx)
  have hx1 := hw _ (getD_mem hlt)
  have ha := (hv.at hl.1 hl.2 hx1.1 hx1.2).1
  exact ⟨hl, hlt, ⟨hx1.1, by rw [ha]; exact hx1.2⟩, hlt, (leadG_take a s word i hlt).symm⟩
/- mizmaze/mizmazeref01.Has -/
def c25 : VCfg := ⟨⟨[], [], [], [0, 1, 4, 5, 9, 17]⟩, [], [], []⟩
theorem f25 (l : List Int) (z : Bool) (n : Int) (hx : l.length ≤ 4611686018427387904) :
    ACall Tryz.prog 25 [.pay (.ints .i64 l) z, .int .i64 n] (fun r objs => r = .bool (decide (n ∈ l)) ∧ objs = []) := by
  refine acall_intro (tyP_ok _) c25 2000 [.tmp 4] Tryz.func25 rfl (by rfl) rfl (by kernel_rfl) ?_
  unfold Tryz.f25
  simp (config := {implicitDefEqProofs := false, maxSteps := 4000000}) (disch := omega) only [push_cast, c25, Nat.reduceAdd, Nat.reduceSub, Nat.reduceMul, Nat.reduceBEq, Int.reduceToNat, Int.reduceNeg, Int.reduceLE, Int.reduceLT, Int.reduceBEq, Int.reduceBNe, Int.reduceEq, Bool.not_true, Bool.not_false, eq_self, reduceCtorEq]
  refine awp_upto (tyP_ok _) c25 2000 [0, 1, 4, 5] (l.length) (fun i => ∀ j, j < i → l.getD j 0 ≠ n) (fun i => ⟨18, [(0, .pay (.ints .i64 l) z), (1, .int .i64 n), (4, .bool false), (5, .int .i64 i)], []⟩) (by kernel_rfl) rfl ?_ ?_
  · exact fun j hj => by omega
  intro i hi hr
  simp (config := {implicitDefEqProofs := false, maxSteps := 4000000}) (disch := omega) only [push_cast, c25, Nat.reduceAdd, Nat.reduceSub, Nat.reduceMul, Nat.reduceBEq, Int.reduceToNat, Int.reduceNeg, Int.reduceLE, Int.reduceLT, Int.reduceBEq, Int.reduceBNe, Int.reduceEq, Bool.not_true, Bool.not_false, eq_self, reduceCtorEq]
  refine ⟨fun hlt => ⟨hlt, fun h => ?_, fun h => ⟨hlt, upto_succ hr h⟩⟩, fun hge => ?_⟩
  · symm; rw [decide_eq_true_eq, ← h]; exact getD_mem hlt
  · symm; rw [decide_eq_false_iff_not]; exact fun hm => all_of_getD (p := fun x => x ≠ n) (fun j hj => hr j (by omega)) n hm rfl
/- mizmaze/mizmazeref01.Ends -/
def c50 : VCfg := ⟨⟨[], [], [5], [0, 1, 2, 4, 5, 6, 11]⟩, [], [], []⟩
theorem f50 (a : List (List Int)) (z z' : Bool) (word : List Int) (hx : word.length ≤ 4611686018427387904) (k : Nat) (hv : Vld a k) (hw : ∀ x ∈ word, 0 ≤ x ∧ x < k) :
    ACall Tryz.prog 50 [.agg [.pay (.rows a) z], .pay (.ints .i64 word) z'] (fun r objs => r = .own 0 ∧ objs = [.arr (.ints .i64 (endsL a word a.length)) ⟨3, true⟩]) := by
  refine acall_intro (tyP_ok _) c50 2000 [.tmp 4] Tryz.func50 rfl (by rfl) rfl (by kernel_rfl) ?_
  unfold Tryz.f50
  simp (config := {implicitDefEqProofs := false, maxSteps := 4000000}) (disch := omega) only [push_cast, c50, Nat.reduceAdd, Nat.reduceSub, Nat.reduceMul, Nat.reduceBEq, Int.reduceToNat, Int.reduceNeg, Int.reduceLE, Int.reduceLT, Int.reduceBEq, Int.reduceBNe, Int.reduceEq, Bool.not_true, Bool.not_false, eq_self, reduceCtorEq]
  have hn := hv.n2
  refine awp_upto (tyP_ok _) c50 2000 [1, 2, 4, 5, 6] (a.length) (fun _ => True) (fun i => ⟨22, [(1, .pay (.ints .i64 word) z'), (2, .fref [.pay (.rows a) z]), (4, .pay (.ints .i64 []) true), (5, .own 0), (6, .int .i64 i)], [.arr (.ints .i64 (endsL a word i)) ⟨3, true⟩]⟩) (by kernel_rfl) rfl ?_ ?_
  · trivial
  intro i hi _
  simp (config := {implicitDefEqProofs := false, maxSteps := 4000000}) (disch := omega) only [push_cast, c50, Nat.reduceAdd, Nat.reduceSub, Nat.reduceMul, Nat.reduceBEq, Int.reduceToNat, Int.reduceNeg, Int.reduceLE, Int.reduceLT, Int.reduceBEq, Int.reduceBNe, Int.reduceEq, Bool.not_true, Bool.not_false, eq_self, reduceCtorEq]
  refine ⟨fun hlt => ?_, fun hge => by rw [show i = a.length by omega]⟩
  refine callW_eq _ _ (f15 a z z' _ word hx k hv (by omega) hw) ?_
  simp (config := {implicitDefEqProofs := false, maxSteps := 4000000}) (disch := omega) only [push_cast, c50, Nat.reduceAdd, Nat.reduceSub, Nat.reduceMul, Nat.reduceBEq, Int.reduceToNat, Int.reduceNeg, Int.reduceLE, Int.reduceLT, Int.reduceBEq, Int.reduceBNe, Int.reduceEq, Bool.not_true, Bool.not_false, eq_self, reduceCtorEq]
  rw [endsL_len, endsL_succ]
  exact ⟨by omega, hlt, rfl⟩
/- mizmaze/mizmazeref01.Image -/
def c20 : VCfg := ⟨⟨[], [], [8, 9], [0, 1, 2, 3, 6, 7, 8, 9, 10, 11, 18, 35, 40]⟩, [], [], []⟩
theorem f20 (a : List (List Int)) (z z' z'' : Bool) (set word : List Int) (hx : word.length ≤ 4611686018427387904) (k : Nat) (hv : Vld a k) (hs : setOk a.length set) (hw : ∀ x ∈ word, 0 ≤ x ∧ x < k) :
    ACall Tryz.prog 20 [.agg [.pay (.rows a) z], .pay (.ints .i64 set) z', .pay (.ints .i64 word) z''] (fun r objs => r = .own 0 ∧ objs = [.arr (.ints .i64 (imageL a set word)) ⟨3, true⟩]) := by
  refine acall_intro (tyP_ok _) c20 2000 [.tmp 6] Tryz.func20 rfl (by rfl) rfl (by kernel_rfl) ?_
  unfold Tryz.f20
  simp (config := {implicitDefEqProofs := false, maxSteps := 4000000}) (disch := omega) only [push_cast, c20, Nat.reduceAdd, Nat.reduceSub, Nat.reduceMul, Nat.reduceBEq, Int.reduceToNat, Int.reduceNeg, Int.reduceLE, Int.reduceLT, Int.reduceBEq, Int.reduceBNe, Int.reduceEq, Bool.not_true, Bool.not_false, eq_self, reduceCtorEq]
  refine callW_eq _ _ (f50 a z z'' word hx k hv hw) ?_
  simp (config := {implicitDefEqProofs := false, maxSteps := 4000000}) (disch := omega) only [push_cast, c20, Nat.reduceAdd, Nat.reduceSub, Nat.reduceMul, Nat.reduceBEq, Int.reduceToNat, Int.reduceNeg, Int.reduceLE, Int.reduceLT, Int.reduceBEq, Int.reduceBNe, Int.reduceEq, Bool.not_true, Bool.not_false, eq_self, reduceCtorEq]
  have hn := hv.n2
  have hsl := hs.len
  refine awp_upto (tyP_ok _) c20 2000 [1, 3, 6, 7, 8, 9, 10] (set.length) (fun _ => True) (fun i => ⟨46, [(1, .pay (.ints .i64 set) z'), (3, .fref [.pay (.rows a) z]), (6, .pay (.ints .i64 []) true), (7, .own 0), (8, .own 1), (9, .own 2), (10, .int .i64 i)], [.arr (.ints .i64 (endsL a word a.length)) ⟨3, true⟩, .arr (.ints .i64 ((set.take i).map fun s => leadG a s word)) ⟨3, true⟩, .arr (.ints .i64 []) ⟨3, true⟩]⟩) (by kernel_rfl) rfl ?_ ?_
  · trivial
  intro i hi _
  simp (config := {implicitDefEqProofs := false, maxSteps := 4000000}) (disch := omega) only [push_cast, c20, endsL_len, Nat.reduceAdd, Nat.reduceSub, Nat.reduceMul, Nat.reduceBEq, Int.reduceToNat, Int.reduceNeg, Int.reduceLE, Int.reduceLT, Int.reduceBEq, Int.reduceBNe, Int.reduceEq, Bool.not_true, Bool.not_false, eq_self, reduceCtorEq]
  refine ⟨fun hlt => ?_, fun hge => ?_⟩
  · have hx1 := hs.1 _ (getD_mem hlt)
    refine ⟨hlt, hx1, by simp; omega, hlt, ?_⟩
    rw [endsL_get hx1.1 hx1.2, List.take_succ_eq_append_getElem hlt, List.map_append]
    simp [List.getD, hlt]
  · rw [List.take_of_length_le hge]
    refine awp_upto (tyP_ok _) c20 2000 [1, 3, 6, 7, 8, 9, 11] (a.length) (fun _ => True) (fun i => ⟨46, [(1, .pay (.ints .i64 set) z'), (3, .fref [.pay (.rows a) z]), (6, .pay (.ints .i64 []) true), (7, .own 0), (8, .own 1), (9, .own 2), (11, .int .i64 i)], [.arr (.ints .i64 (endsL a word a.length)) ⟨3, true⟩, .arr (.ints .i64 (set.map fun s => leadG a s word)) ⟨3, true⟩, .arr (.ints .i64 (fromTo i fun t => set.any fun s => leadG a s word == t)) ⟨3, true⟩]⟩) (by kernel_rfl) rfl ?_ ?_
    · trivial
    intro i hi _
    simp (config := {implicitDefEqProofs := false, maxSteps := 4000000}) (disch := omega) only [push_cast, c20, endsL_len, Nat.reduceAdd, Nat.reduceSub, Nat.reduceMul, Nat.reduceBEq, Int.reduceToNat, Int.reduceNeg, Int.reduceLE, Int.reduceLT, Int.reduceBEq, Int.reduceBNe, Int.reduceEq, Bool.not_true, Bool.not_false, eq_self, reduceCtorEq]
    refine ⟨fun hlt => ?_, fun hge => by rw [show i = a.length by omega]; rfl⟩
    refine callW_eq _ _ (f25 _ true _ (by simp; omega)) ?_
    have he : decide ((i : Int) ∈ set.map fun s => leadG a s word) = set.any fun s => leadG a s word == (i : Int) := by
      rw [Bool.eq_iff_iff, decide_eq_true_eq]; simp
    rw [he]
    simp (config := {implicitDefEqProofs := false, maxSteps := 4000000}) (disch := omega) only [push_cast, c20, endsL_len, Nat.reduceAdd, Nat.reduceSub, Nat.reduceMul, Nat.reduceBEq, Int.reduceToNat, Int.reduceNeg, Int.reduceLE, Int.reduceLT, Int.reduceBEq, Int.reduceBNe, Int.reduceEq, Bool.not_true, Bool.not_false, eq_self, reduceCtorEq]
    have hfl := fromTo_len i fun t => set.any fun s => leadG a s word == t
    rw [fromTo_succ]
    exact ⟨fun hm => ⟨by omega, hlt, by rw [if_pos hm]⟩, fun hm => ⟨hlt, by rw [if_neg (by simp [hm]), List.append_nil]⟩⟩
/- mizmaze/mizmazeref01.Preimage -/
def c21 : VCfg := ⟨⟨[], [], [8], [0, 1, 2, 3, 6, 7, 8, 9, 17, 25]⟩, [], [], []⟩
theorem f21 (a : List (List Int)) (z z' z'' : Bool) (set word : List Int) (hx : word.length ≤ 4611686018427387904) (k : Nat) (hv : Vld a k) (hs : setOk a.length set) (hw : ∀ x ∈ word, 0 ≤ x ∧ x < k) :
    ACall Tryz.prog 21 [.agg [.pay (.rows a) z], .pay (.ints .i64 set) z', .pay (.ints .i64 word) z''] (fun r objs => r = .own 0 ∧ objs = [.arr (.ints .i64 (preL a (fun x => decide (x ∈ set)) word)) ⟨3, true⟩]) := by
  refine acall_intro (tyP_ok _) c21 2000 [.tmp 6] Tryz.func21 rfl (by rfl) rfl (by kernel_rfl) ?_
  unfold Tryz.f21
  simp (config := {implicitDefEqProofs := false, maxSteps := 4000000}) (disch := omega) only [push_cast, c21, Nat.reduceAdd, Nat.reduceSub, Nat.reduceMul, Nat.reduceBEq, Int.reduceToNat, Int.reduceNeg, Int.reduceLE, Int.reduceLT, Int.reduceBEq, Int.reduceBNe, Int.reduceEq, Bool.not_true, Bool.not_false, eq_self, reduceCtorEq]
  refine callW_eq _ _ (f50 a z z'' word hx k hv hw) ?_
  simp (config := {implicitDefEqProofs := false, maxSteps := 4000000}) (disch := omega) only [push_cast, c21, Nat.reduceAdd, Nat.reduceSub, Nat.reduceMul, Nat.reduceBEq, Int.reduceToNat, Int.reduceNeg, Int.reduceLE, Int.reduceLT, Int.reduceBEq, Int.reduceBNe, Int.reduceEq, Bool.not_true, Bool.not_false, eq_self, reduceCtorEq]
  have hn := hv.n2
  have hsl := hs.len
  refine awp_upto (tyP_ok _) c21 2000 [1, 3, 6, 7, 8, 9] (a.length) (fun _ => True) (fun i => ⟨31, [(1, .pay (.ints .i64 set) z'), (3, .fref [.pay (.rows a) z]), (6, .pay (.ints .i64 []) true), (7, .own 0), (8, .own 1), (9, .int .i64 i)], [.arr (.ints .i64 (endsL a word a.length)) ⟨3, true⟩, .arr (.ints .i64 (fromTo i fun s => decide (leadG a s word ∈ set))) ⟨3, true⟩]⟩) (by kernel_rfl) rfl ?_ ?_
  · trivial
  intro i hi _
  simp (config := {implicitDefEqProofs := false, maxSteps := 4000000}) (disch := omega) only [push_cast, c21, endsL_len, Nat.reduceAdd, Nat.reduceSub, Nat.reduceMul, Nat.reduceBEq, Int.reduceToNat, Int.reduceNeg, Int.reduceLE, Int.reduceLT, Int.reduceBEq, Int.reduceBNe, Int.reduceEq, Bool.not_true, Bool.not_false, eq_self, reduceCtorEq]
  refine ⟨fun hlt => ⟨hlt, ?_⟩, fun hge => by rw [show i = a.length by omega]; rfl⟩
  refine callW_eq _ _ (f25 _ z' _ (by omega)) ?_
  rw [endsL_getN hlt]
  simp (config := {implicitDefEqProofs := false, maxSteps := 4000000}) (disch := omega) only [push_cast, c21, endsL_len, Nat.reduceAdd, Nat.reduceSub, Nat.reduceMul, Nat.reduceBEq, Int.reduceToNat, Int.reduceNeg, Int.reduceLE, Int.reduceLT, Int.reduceBEq, Int.reduceBNe, Int.reduceEq, Bool.not_true, Bool.not_false, eq_self, reduceCtorEq]
  have hfl := fromTo_len i fun s => decide (leadG a s word ∈ set)
  rw [fromTo_succ]
  exact ⟨fun hm => ⟨by omega, hlt, by rw [if_pos (by simpa using hm)]⟩, fun hm => ⟨hlt, by rw [if_neg (by simpa using hm), List.append_nil]⟩⟩
/- mizmaze/mizmazeref01.Same -/
def c22 : VCfg := ⟨⟨[], [], [], [0, 1, 4, 5, 10, 14, 25]⟩, [(6, (.op 0 .loose (.op 1 .loose (.op 2 .loose (.op 3 .loose (.op 4 .loose (.op 5 .loose (.op 6 .loose (.op 7 .loose (.op 8 .loose .nil))))))))))], [], []⟩
theorem f22 (x y : List Int) (z z' : Bool) (hx : x.length ≤ 4611686018427387904) :
    ACall Tryz.prog 22 [.pay (.ints .i64 x) z, .pay (.ints .i64 y) z'] (fun r objs => r = .bool (decide (x = y)) ∧ objs = []) := by
  refine acall_intro (tyP_ok _) c22 2000 [.tmp 4] Tryz.func22 rfl (by rfl) rfl (by kernel_rfl) ?_
  unfold Tryz.f22
  simp (config := {implicitDefEqProofs := false, maxSteps := 4000000}) (disch := omega) only [push_cast, c22, Nat.reduceAdd, Nat.reduceSub, Nat.reduceMul, Nat.reduceBEq, Int.reduceToNat, Int.reduceNeg, Int.reduceLE, Int.reduceLT, Int.reduceBEq, Int.reduceBNe, Int.reduceEq, Bool.not_true, Bool.not_false, eq_self, reduceCtorEq]
  refine ⟨fun hne => ?_, fun heq => ?_⟩
  · have : x ≠ y := fun e => by subst e; simp at hne
    simp [this]
  refine awp_upto (tyP_ok _) c22 2000 [0, 1, 4, 5] (x.length) (fun i => ∀ j, j < i → x.getD j 0 = y.getD j 0) (fun i => ⟨26, [(0, .pay (.ints .i64 x) z), (1, .pay (.ints .i64 y) z'), (4, .bool false), (5, .int .i64 i)], []⟩) (by kernel_rfl) rfl ?_ ?_
  · exact fun j hj => by omega
  intro i hi hp
  simp (config := {implicitDefEqProofs := false, maxSteps := 4000000}) (disch := omega) only [push_cast, c22, Nat.reduceAdd, Nat.reduceSub, Nat.reduceMul, Nat.reduceBEq, Int.reduceToNat, Int.reduceNeg, Int.reduceLE, Int.reduceLT, Int.reduceBEq, Int.reduceBNe, Int.reduceEq, Bool.not_true, Bool.not_false, eq_self, reduceCtorEq]
  refine ⟨fun hlt => ⟨hlt, by omega, fun hne => ?_, fun he => ⟨hlt, upto_succ hp he⟩⟩, fun hge => ?_⟩
  · have : x ≠ y := fun e => hne (by rw [e])
    simp [this]
  · have : x = y := ints_eq' heq fun j hj => hp j (by omega)
    simp [this]
end Go.AM
end

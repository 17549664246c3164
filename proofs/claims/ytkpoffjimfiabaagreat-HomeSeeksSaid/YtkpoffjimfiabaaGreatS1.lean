/-
  Contracts of the package auto's functions, of Valid on both sides and of the chapter's small functions; conditions in each statement.
-/
import Derived.Test.YtkpoffjimfiabaaGreatF4
import Derived.Test.YtkpoffjimfiabaaGreatProg
import Derived.KernelRfl
import Derived.Test.YtkpoffjimfiabaaGreatP1
import Derived.Test.YtkpoffjimfiabaaGreatP2
import Derived.Test.YtkpoffjimfiabaaGreatF5
set_option linter.unusedVariables false
set_option linter.unusedSimpArgs false
set_option linter.unusedSectionVars false
set_option linter.unnecessarySimpa false

section
namespace Go.AM
open Go Go.Proofs
def zrep (n : Nat) : List AV := List.replicate n (.int .i64 0)
theorem zrep_len (n : Nat) : (zrep n).length = n := by simp [zrep]
attribute [push_cast] zrep_len
theorem t3 : tyP Tryz.prog 3 = some ⟨1, 8, .int .i64, .int .i64 0⟩ := by kernel_rfl
theorem t4 : tyP Tryz.prog 4 = some ⟨1, 1, .bool, .bool false⟩ := by kernel_rfl
theorem t5 : tyP Tryz.prog 5 = some ⟨1, 1, .int .u8, .int .u8 0⟩ := by kernel_rfl
theorem t9 : tyP Tryz.prog 9 = some ⟨1, 16, .str, .str ByteArray.empty⟩ := by kernel_rfl
theorem t22 : tyP Tryz.prog 22 = some ⟨1, 24, .slice 27, .lit (.slice none 0 0)⟩ := by kernel_rfl
theorem t24 : tyP Tryz.prog 24 = some ⟨2, 48, .struct [(0, 22), (1, 22)], .agg [.lit (.slice none 0 0), .lit (.slice none 0 0)]⟩ := by kernel_rfl
theorem t27 : tyP Tryz.prog 27 = some ⟨1, 24, .slice 3, .lit (.slice none 0 0)⟩ := by kernel_rfl
theorem t28 : tyP Tryz.prog 28 = some ⟨1, 8, .int .i64, .int .i64 0⟩ := by kernel_rfl
theorem t43 : tyP Tryz.prog 43 = some ⟨1, 24, .struct [(0, 22)], .agg [.lit (.slice none 0 0)]⟩ := by kernel_rfl
theorem t45 : tyP Tryz.prog 45 = some ⟨1, 8, .ptr 74, .lit (.pointer none)⟩ := by kernel_rfl
theorem t57 : tyP Tryz.prog 57 = some ⟨1, 24, .slice 4, .lit (.slice none 0 0)⟩ := by kernel_rfl
theorem t71 : tyP Tryz.prog 71 = some ⟨60, 480, .array 60 3, .agg [.int .i64 0, .int .i64 0, .int .i64 0, .int .i64 0, .int .i64 0, .int .i64 0, .int .i64 0, .int .i64 0, .int .i64 0, .int .i64 0, .int .i64 0, .int .i64 0, .int .i64 0, .int .i64 0, .int .i64 0, .int .i64 0, .int .i64 0, .int .i64 0, .int .i64 0, .int .i64 0, .int .i64 0, .int .i64 0, .int .i64 0, .int .i64 0, .int .i64 0, .int .i64 0, .int .i64 0, .int .i64 0, .int .i64 0, .int .i64 0, .int .i64 0, .int .i64 0, .int .i64 0, .int .i64 0, .int .i64 0, .int .i64 0, .int .i64 0, .int .i64 0, .int .i64 0, .int .i64 0, .int .i64 0, .int .i64 0, .int .i64 0, .int .i64 0, .int .i64 0, .int .i64 0, .int .i64 0, .int .i64 0, .int .i64 0, .int .i64 0, .int .i64 0, .int .i64 0, .int .i64 0, .int .i64 0, .int .i64 0, .int .i64 0, .int .i64 0, .int .i64 0, .int .i64 0, .int .i64 0]⟩ := by kernel_rfl
theorem t72 : tyP Tryz.prog 72 = some ⟨3600, 28800, .array 60 71, .agg (zrep 3600)⟩ := by kernel_rfl
theorem t74 : tyP Tryz.prog 74 = some ⟨3603, 28856, .struct [(0, 24), (2, 4), (3, 72)], .agg ([.lit (.slice none 0 0), .lit (.slice none 0 0), .bool false] ++ zrep 3600)⟩ := by kernel_rfl
theorem t79 : tyP Tryz.prog 79 = some ⟨1, 8, .ptr 81, .lit (.pointer none)⟩ := by kernel_rfl
theorem t81 : tyP Tryz.prog 81 = some ⟨3, 56, .struct [(0, 24), (2, 3)], .agg [.lit (.slice none 0 0), .lit (.slice none 0 0), .int .i64 0]⟩ := by kernel_rfl
theorem t89 : tyP Tryz.prog 89 = some ⟨2, 16, .array 2 3, .agg [.int .i64 0, .int .i64 0]⟩ := by kernel_rfl
theorem t90 : tyP Tryz.prog 90 = some ⟨1, 24, .slice 89, .lit (.slice none 0 0)⟩ := by kernel_rfl
theorem t97 : tyP Tryz.prog 97 = some ⟨3, 40, .struct [(0, 22), (1, 3), (2, 3)], .agg [.lit (.slice none 0 0), .int .i64 0, .int .i64 0]⟩ := by kernel_rfl
theorem t98 : tyP Tryz.prog 98 = some ⟨1, 24, .slice 97, .lit (.slice none 0 0)⟩ := by kernel_rfl
theorem t100 : tyP Tryz.prog 100 = some ⟨1, 8, .map 9 4, .lit (.map none)⟩ := by kernel_rfl
theorem t122 : tyP Tryz.prog 122 = some ⟨16, 384, .array 16 27, .agg [.lit (.slice none 0 0), .lit (.slice none 0 0), .lit (.slice none 0 0), .lit (.slice none 0 0), .lit (.slice none 0 0), .lit (.slice none 0 0), .lit (.slice none 0 0), .lit (.slice none 0 0), .lit (.slice none 0 0), .lit (.slice none 0 0), .lit (.slice none 0 0), .lit (.slice none 0 0), .lit (.slice none 0 0), .lit (.slice none 0 0), .lit (.slice none 0 0), .lit (.slice none 0 0)]⟩ := by kernel_rfl
theorem t124 : tyP Tryz.prog 124 = some ⟨1, 24, .slice 5, .lit (.slice none 0 0)⟩ := by kernel_rfl
theorem t125 : tyP Tryz.prog 125 = some ⟨1, 8, .map 127 3, .lit (.map none)⟩ := by kernel_rfl
theorem t127 : tyP Tryz.prog 127 = some ⟨13, 104, .array 13 3, .agg [.int .i64 0, .int .i64 0, .int .i64 0, .int .i64 0, .int .i64 0, .int .i64 0, .int .i64 0, .int .i64 0, .int .i64 0, .int .i64 0, .int .i64 0, .int .i64 0, .int .i64 0]⟩ := by kernel_rfl
attribute [push_cast] t3 t4 t5 t9 t22 t24 t27 t28 t43 t45 t57 t71 t72 t74 t79 t81 t89 t90 t97 t98 t100 t122 t124 t125 t127
end Go.AM
end

section
namespace Go.AM
open Go Go.Proofs
def c84 : VCfg := ⟨⟨[], [], [], [0, 1, 2]⟩, [], [], []⟩
theorem f84 (a : List (List Int)) (z : Bool) (h : 0 < a.length) : ACall Tryz.prog 84 [.agg [.pay (.rows a) z]] (fun r objs => r = .int .i64 (a.getD 0 []).length ∧ objs = []) := by
 refine acall_intro (tyP_ok _) c84 2000 [.tmp 2] Tryz.func84 rfl (by rfl) rfl (by kernel_rfl) ?_
 unfold Tryz.f84
 simp -implicitDefEqProofs (maxSteps := 4000000) (disch := omega) only [push_cast, c84, Nat.reduceAdd, Nat.reduceSub, Nat.reduceMul, Nat.reduceBEq, Int.reduceToNat, Int.reduceNeg, Int.reduceLE, Int.reduceLT, Int.reduceBEq, Int.reduceBNe, Int.reduceEq, eq_self, reduceCtorEq]
 exact h
def c87 : VCfg := ⟨⟨[], [], [], [0, 1, 3]⟩, [], [], []⟩
theorem f87 (x n : Int) : ACall Tryz.prog 87 [.int .i64 x, .fref [.int .i64 n]] (fun r objs => r = .bool (decide (x < 0 ∨ n ≤ x)) ∧ objs = []) := by
 refine acall_intro (tyP_ok _) c87 2000 [.tmp 3] Tryz.func87 rfl (by rfl) rfl (by kernel_rfl) ?_
 unfold Tryz.f87
 simp -implicitDefEqProofs (maxSteps := 4000000) (disch := omega) only [push_cast, c87, Nat.reduceAdd, Nat.reduceSub, Nat.reduceMul, Nat.reduceBEq, Int.reduceToNat, Int.reduceNeg, Int.reduceLE, Int.reduceLT, Int.reduceBEq, Int.reduceBNe, Int.reduceEq, eq_self, reduceCtorEq]
 exact ⟨fun h => by simp [h], fun h => by simp [show ¬ x < 0 by omega]⟩
def c67 : VCfg := ⟨⟨[], [], [], [0, 1, 4, 5, 7, 8, 9, 16]⟩, [], [], []⟩
theorem f67 (l : List Int) (z : Bool) (hl : l.length ≤ 4611686018427387904) (g : FuncId) (caps : List AV) (p : Int → Bool) (hg : ∀ x, ACall Tryz.prog g (.int .i64 x :: caps) (fun r objs => r = .bool (p x) ∧ objs = [])) (hc : NoH caps) :
  ACall Tryz.prog 67 [.pay (.ints .i64 l) z, .clo g caps] (fun r objs => ∃ n : Int, (0 ≤ n ↔ ∃ x ∈ l, p x = true) ∧ r = .int .i64 n ∧ objs = []) := by
 refine acall_intro (tyP_ok _) c67 2000 [.tmp 4] Tryz.func67 rfl (by rfl) rfl (by kernel_rfl) ?_
 unfold Tryz.f67
 simp -implicitDefEqProofs (maxSteps := 4000000) (disch := omega) only [push_cast, c67, Nat.reduceAdd, Nat.reduceSub, Nat.reduceMul, Nat.reduceBEq, Int.reduceToNat, Int.reduceNeg, Int.reduceLE, Int.reduceLT, Int.reduceBEq, Int.reduceBNe, Int.reduceEq, eq_self, reduceCtorEq]
 refine awp_upto (tyP_ok _) c67 2000 [0, 1, 4, 7, 8] (l.length) (fun i => ∀ j, j < i → p (l.getD j 0) = false) (fun i => ⟨19, [(0, .pay (.ints .i64 l) z), (1, .clo g caps), (4, .int .i64 0), (7, .int .i64 l.length), (8, .int .i64 i)], []⟩) (by kernel_rfl) ?_ ?_ ?_
 ·simp -implicitDefEqProofs (maxSteps := 4000000) (disch := omega) only [push_cast, c67, hc.hs, hc.mp, Nat.reduceAdd, Nat.reduceSub, Nat.reduceMul, Nat.reduceBEq, Int.reduceToNat, Int.reduceNeg, Int.reduceLE, Int.reduceLT, Int.reduceBEq, Int.reduceBNe, Int.reduceEq, eq_self, reduceCtorEq]
 ·exact fun j hj => by omega
 intro i hi hr
 simp -implicitDefEqProofs (maxSteps := 4000000) (disch := omega) only [push_cast, c67, hc.hs, hc.mp, hc.no3, Nat.reduceAdd, Nat.reduceSub, Nat.reduceMul, Nat.reduceBEq, Int.reduceToNat, Int.reduceNeg, Int.reduceLE, Int.reduceLT, Int.reduceBEq, Int.reduceBNe, Int.reduceEq, eq_self, reduceCtorEq]
 refine ⟨fun hlt => ⟨hlt, ?_⟩, fun hge => ⟨-1, ?_, rfl⟩⟩
 ·refine callW_eq _ _ (hg _) ?_
  simp -implicitDefEqProofs (maxSteps := 4000000) (disch := omega) only [push_cast, c67, hc.hs, hc.mp, hc.no3, Nat.reduceAdd, Nat.reduceSub, Nat.reduceMul, Nat.reduceBEq, Int.reduceToNat, Int.reduceNeg, Int.reduceLE, Int.reduceLT, Int.reduceBEq, Int.reduceBNe, Int.reduceEq, eq_self, reduceCtorEq]
  refine ⟨fun h => ⟨i, ⟨fun _ => ⟨_, getD_mem hlt, h⟩, fun _ => by omega⟩, rfl⟩, fun h => ⟨hlt, fun j hj => ?_⟩⟩
  rcases Nat.lt_succ_iff_lt_or_eq.1 hj with hj | rfl
  ·exact hr j hj
  ·exact h
 ·refine ⟨fun h => by omega, fun ⟨x, hx, h⟩ => ?_⟩
  obtain ⟨j, hj, rfl⟩ := List.getElem_of_mem hx
  have := hr j (by omega)
  have e : l.getD j 0 = l[j] := by simp [hj]
  rw [e, h] at this
  cases this
def c44 : VCfg := ⟨⟨[], [], [], [0, 1, 4]⟩, [], [], []⟩
theorem f44 (l : List Int) (z : Bool) (hl : l.length ≤ 4611686018427387904) (g : FuncId) (caps : List AV) (p : Int → Bool) (hg : ∀ x, ACall Tryz.prog g (.int .i64 x :: caps) (fun r objs => r = .bool (p x) ∧ objs = [])) (hc : NoH caps) :
  ACall Tryz.prog 44 [.pay (.ints .i64 l) z, .clo g caps] (fun r objs => r = .bool (l.any p) ∧ objs = []) := by
 refine acall_intro (tyP_ok _) c44 2000 [.tmp 4] Tryz.func44 rfl (by rfl) rfl (by kernel_rfl) ?_
 unfold Tryz.f44
 simp -implicitDefEqProofs (maxSteps := 4000000) (disch := omega) only [push_cast, c44, hc.hs, hc.mp, hc.no2, hc.no3, Nat.reduceAdd, Nat.reduceSub, Nat.reduceMul, Nat.reduceBEq, Int.reduceToNat, Int.reduceNeg, Int.reduceLE, Int.reduceLT, Int.reduceBEq, Int.reduceBNe, Int.reduceEq, eq_self, reduceCtorEq]
 refine callW_rel (f67 l z hl g caps p hg hc) ?_
 rintro R O ⟨n, hn, rfl, rfl⟩
 simp -implicitDefEqProofs (maxSteps := 4000000) (disch := omega) only [push_cast, c44, hc.hs, hc.mp, hc.no2, hc.no3, Nat.reduceAdd, Nat.reduceSub, Nat.reduceMul, Nat.reduceBEq, Int.reduceToNat, Int.reduceNeg, Int.reduceLE, Int.reduceLT, Int.reduceBEq, Int.reduceBNe, Int.reduceEq, eq_self, reduceCtorEq]
 rw [Bool.eq_iff_iff, decide_eq_true_eq, hn, List.any_eq_true]
def c65 : VCfg := ⟨⟨[], [], [], [0, 1, 3, 4]⟩, [], [], []⟩
theorem f65 (l : List Int) (z : Bool) (n : Int) (hl : l.length ≤ 4611686018427387904) :
  ACall Tryz.prog 65 [.pay (.ints .i64 l) z, .int .i64 n] (fun r objs => r = .bool (belowB l n) ∧ objs = []) := by
 refine acall_intro (tyP_ok _) c65 2000 [.tmp 4] Tryz.func65 rfl (by rfl) rfl (by kernel_rfl) ?_
 unfold Tryz.f65
 simp -implicitDefEqProofs (maxSteps := 4000000) (disch := omega) only [push_cast, c65, Nat.reduceAdd, Nat.reduceSub, Nat.reduceMul, Nat.reduceBEq, Int.reduceToNat, Int.reduceNeg, Int.reduceLE, Int.reduceLT, Int.reduceBEq, Int.reduceBNe, Int.reduceEq, eq_self, reduceCtorEq]
 refine callW_eq _ _ (f44 l z hl 87 [.fref [.int .i64 n]] (fun x => decide (x < 0 ∨ n ≤ x)) (fun x => f87 x n) (NoH.of rfl rfl)) ?_
 simp -implicitDefEqProofs (maxSteps := 4000000) (disch := omega) only [push_cast, c65, Nat.reduceAdd, Nat.reduceSub, Nat.reduceMul, Nat.reduceBEq, Int.reduceToNat, Int.reduceNeg, Int.reduceLE, Int.reduceLT, Int.reduceBEq, Int.reduceBNe, Int.reduceEq, eq_self, reduceCtorEq]
 rw [Bool.eq_iff_iff]
 simp [belowB, List.all_eq_true, List.any_eq_false]
def c66 : VCfg := ⟨⟨[], [], [], [0, 1, 4, 5, 7, 8, 9, 16]⟩, [], [], []⟩
theorem f66 (l : List (List Int)) (z : Bool) (hl : l.length ≤ 4611686018427387904) (g : FuncId) (caps : List AV) (p : List Int → Bool) (hg : ∀ x, x ∈ l → ACall Tryz.prog g (.pay (.ints .i64 x) false :: caps) (fun r objs => r = .bool (p x) ∧ objs = [])) (hc : NoH caps) :
  ACall Tryz.prog 66 [.pay (.rows l) z, .clo g caps] (fun r objs => ∃ n : Int, (0 ≤ n ↔ ∃ x ∈ l, p x = true) ∧ r = .int .i64 n ∧ objs = []) := by
 refine acall_intro (tyP_ok _) c66 2000 [.tmp 4] Tryz.func66 rfl (by rfl) rfl (by kernel_rfl) ?_
 unfold Tryz.f66
 simp -implicitDefEqProofs (maxSteps := 4000000) (disch := omega) only [push_cast, c66, Nat.reduceAdd, Nat.reduceSub, Nat.reduceMul, Nat.reduceBEq, Int.reduceToNat, Int.reduceNeg, Int.reduceLE, Int.reduceLT, Int.reduceBEq, Int.reduceBNe, Int.reduceEq, eq_self, reduceCtorEq]
 refine awp_upto (tyP_ok _) c66 2000 [0, 1, 4, 7, 8] (l.length) (fun i => ∀ j, j < i → p (l.getD j []) = false) (fun i => ⟨19, [(0, .pay (.rows l) z), (1, .clo g caps), (4, .int .i64 0), (7, .int .i64 l.length), (8, .int .i64 i)], []⟩) (by kernel_rfl) ?_ ?_ ?_
 ·simp -implicitDefEqProofs (maxSteps := 4000000) (disch := omega) only [push_cast, c66, hc.hs, hc.mp, Nat.reduceAdd, Nat.reduceSub, Nat.reduceMul, Nat.reduceBEq, Int.reduceToNat, Int.reduceNeg, Int.reduceLE, Int.reduceLT, Int.reduceBEq, Int.reduceBNe, Int.reduceEq, eq_self, reduceCtorEq]
 ·exact fun j hj => by omega
 intro i hi hr
 simp -implicitDefEqProofs (maxSteps := 4000000) (disch := omega) only [push_cast, c66, hc.hs, hc.mp, hc.no3, Nat.reduceAdd, Nat.reduceSub, Nat.reduceMul, Nat.reduceBEq, Int.reduceToNat, Int.reduceNeg, Int.reduceLE, Int.reduceLT, Int.reduceBEq, Int.reduceBNe, Int.reduceEq, eq_self, reduceCtorEq]
 refine ⟨fun hlt => ⟨hlt, ?_⟩, fun hge => ⟨-1, ?_, rfl⟩⟩
 ·refine callW_eq _ _ (hg _ (getD_mem' hlt)) ?_
  simp -implicitDefEqProofs (maxSteps := 4000000) (disch := omega) only [push_cast, c66, hc.hs, hc.mp, hc.no3, Nat.reduceAdd, Nat.reduceSub, Nat.reduceMul, Nat.reduceBEq, Int.reduceToNat, Int.reduceNeg, Int.reduceLE, Int.reduceLT, Int.reduceBEq, Int.reduceBNe, Int.reduceEq, eq_self, reduceCtorEq]
  refine ⟨fun h => ⟨i, ⟨fun _ => ⟨_, getD_mem' hlt, h⟩, fun _ => by omega⟩, rfl⟩, fun h => ⟨hlt, fun j hj => ?_⟩⟩
  rcases Nat.lt_succ_iff_lt_or_eq.1 hj with hj | rfl
  ·exact hr j hj
  ·exact h
 ·refine ⟨fun h => by omega, fun ⟨x, hx, h⟩ => ?_⟩
  obtain ⟨j, hj, rfl⟩ := List.getElem_of_mem hx
  have := hr j (by omega)
  have e : l.getD j [] = l[j] := by simp [hj]
  rw [e, h] at this
  cases this
def c42 : VCfg := ⟨⟨[], [], [], [0, 1, 4]⟩, [], [], []⟩
theorem f42 (l : List (List Int)) (z : Bool) (hl : l.length ≤ 4611686018427387904) (g : FuncId) (caps : List AV) (p : List Int → Bool) (hg : ∀ x, x ∈ l → ACall Tryz.prog g (.pay (.ints .i64 x) false :: caps) (fun r objs => r = .bool (p x) ∧ objs = [])) (hc : NoH caps) :
  ACall Tryz.prog 42 [.pay (.rows l) z, .clo g caps] (fun r objs => r = .bool (l.any p) ∧ objs = []) := by
 refine acall_intro (tyP_ok _) c42 2000 [.tmp 4] Tryz.func42 rfl (by rfl) rfl (by kernel_rfl) ?_
 unfold Tryz.f42
 simp -implicitDefEqProofs (maxSteps := 4000000) (disch := omega) only [push_cast, c42, hc.hs, hc.mp, hc.no2, hc.no3, Nat.reduceAdd, Nat.reduceSub, Nat.reduceMul, Nat.reduceBEq, Int.reduceToNat, Int.reduceNeg, Int.reduceLE, Int.reduceLT, Int.reduceBEq, Int.reduceBNe, Int.reduceEq, eq_self, reduceCtorEq]
 refine callW_rel (f66 l z hl g caps p hg hc) ?_
 rintro R O ⟨n, hn, rfl, rfl⟩
 simp -implicitDefEqProofs (maxSteps := 4000000) (disch := omega) only [push_cast, c42, hc.hs, hc.mp, hc.no2, hc.no3, Nat.reduceAdd, Nat.reduceSub, Nat.reduceMul, Nat.reduceBEq, Int.reduceToNat, Int.reduceNeg, Int.reduceLE, Int.reduceLT, Int.reduceBEq, Int.reduceBNe, Int.reduceEq, eq_self, reduceCtorEq]
 rw [Bool.eq_iff_iff, decide_eq_true_eq, hn, List.any_eq_true]
def c64 : VCfg := ⟨⟨[], [], [], [0, 1, 2, 4]⟩, [], [], []⟩
theorem f64 (row : List Int) (z z' : Bool) (k : Int) (a : List (List Int)) (hl : row.length ≤ 4611686018427387904) :
  ACall Tryz.prog 64 [.pay (.ints .i64 row) z, .fref [.int .i64 k], .fref [.pay (.rows a) z']] (fun r objs => r = .bool (!(decide ((row.length : Int) = k) && belowB row a.length)) ∧ objs = []) := by
 refine acall_intro (tyP_ok _) c64 2000 [.tmp 4] Tryz.func64 rfl (by rfl) rfl (by kernel_rfl) ?_
 unfold Tryz.f64
 simp -implicitDefEqProofs (maxSteps := 4000000) (disch := omega) only [push_cast, c64, Nat.reduceAdd, Nat.reduceSub, Nat.reduceMul, Nat.reduceBEq, Int.reduceToNat, Int.reduceNeg, Int.reduceLE, Int.reduceLT, Int.reduceBEq, Int.reduceBNe, Int.reduceEq, eq_self, reduceCtorEq]
 refine ⟨fun h => by simp [h], fun h => ?_⟩
 refine callW_eq _ _ (f65 row z a.length hl) ?_
 simp -implicitDefEqProofs (maxSteps := 4000000) (disch := omega) only [push_cast, c64, Nat.reduceAdd, Nat.reduceSub, Nat.reduceMul, Nat.reduceBEq, Int.reduceToNat, Int.reduceNeg, Int.reduceLE, Int.reduceLT, Int.reduceBEq, Int.reduceBNe, Int.reduceEq, eq_self, reduceCtorEq]
 simp [h]
def c41 : VCfg := ⟨⟨[], [], [], [0, 1, 2, 3, 13]⟩, [], [], []⟩
theorem f41 (a : List (List Int)) (z : Bool) (hl : a.length ≤ 4611686018427387904) (hl2 : ∀ r ∈ a, r.length ≤ 4611686018427387904) :
  ACall Tryz.prog 41 [.agg [.pay (.rows a) z]] (fun r objs => r = .bool (vldB a) ∧ objs = []) := by
 refine acall_intro (tyP_ok _) c41 2000 [.tmp 2] Tryz.func41 rfl (by rfl) rfl (by kernel_rfl) ?_
 unfold Tryz.f41
 simp -implicitDefEqProofs (maxSteps := 4000000) (disch := omega) only [push_cast, c41, Nat.reduceAdd, Nat.reduceSub, Nat.reduceMul, Nat.reduceBEq, Int.reduceToNat, Int.reduceNeg, Int.reduceLE, Int.reduceLT, Int.reduceBEq, Int.reduceBNe, Int.reduceEq, eq_self, reduceCtorEq]
 refine ⟨fun h => vldB_false fun hv => by have := hv.n1; omega, fun h => ⟨fun h2 => vldB_false fun hv => by have := hv.n2; omega, fun h2 => ⟨by omega, fun h3 => ⟨fun h4 => ?_, fun h4 => vldB_false fun hv => by have := hv.k2; omega⟩, fun h3 => vldB_false fun hv => by have := hv.k1; omega⟩⟩⟩
 refine callW_eq _ _ (f42 a z hl 64 _ (fun row => !(decide ((row.length : Int) = (a.getD 0 []).length) && belowB row a.length)) (fun x hx => f64 x false z _ a (hl2 x hx)) (NoH.of rfl rfl)) ?_
 simp -implicitDefEqProofs (maxSteps := 4000000) (disch := omega) only [push_cast, c41, Nat.reduceAdd, Nat.reduceSub, Nat.reduceMul, Nat.reduceBEq, Int.reduceToNat, Int.reduceNeg, Int.reduceLE, Int.reduceLT, Int.reduceBEq, Int.reduceBNe, Int.reduceEq, eq_self, reduceCtorEq]
 rw [Bool.eq_iff_iff, vldB_iff]
 simp only [Bool.not_eq_true', List.any_eq_false, Bool.not_eq_true', Bool.not_eq_false, Bool.not_eq_true]
 constructor
 ·intro h5
  refine ⟨by omega, by omega, by omega, by omega, fun r hr => ?_⟩
  have := h5 r hr
  simp only [Bool.not_eq_false', Bool.and_eq_true, decide_eq_true_eq, belowB_iff] at this
  exact ⟨by omega, this.2⟩
 ·intro hv r hr
  have := hv.row r hr
  simp only [Bool.not_eq_false', Bool.and_eq_true, decide_eq_true_eq, belowB_iff]
  exact ⟨by omega, this.2⟩
def c58 : VCfg := ⟨⟨[], [], [], [0, 1, 2, 4]⟩, [], [], []⟩
theorem f58 (a : List (List Int)) (z z' : Bool) (w : List Int) (ha : 0 < a.length) (hw : w.length ≤ 4611686018427387904) :
  ACall Tryz.prog 58 [.agg [.pay (.rows a) z], .pay (.ints .i64 w) z'] (fun r objs => r = .bool (wordB (a.getD 0 []).length w) ∧ objs = []) := by
 refine acall_intro (tyP_ok _) c58 2000 [.tmp 4] Tryz.func58 rfl (by rfl) rfl (by kernel_rfl) ?_
 unfold Tryz.f58
 simp -implicitDefEqProofs (maxSteps := 4000000) (disch := omega) only [push_cast, c58, Nat.reduceAdd, Nat.reduceSub, Nat.reduceMul, Nat.reduceBEq, Int.reduceToNat, Int.reduceNeg, Int.reduceLE, Int.reduceLT, Int.reduceBEq, Int.reduceBNe, Int.reduceEq, eq_self, reduceCtorEq]
 refine ⟨fun h => ?_, fun h => by simp [wordB, show ¬ w.length ≤ 40000 by omega]⟩
 refine callW_eq _ _ (f84 a z ha) ?_
 simp -implicitDefEqProofs (maxSteps := 4000000) (disch := omega) only [push_cast, c58, Nat.reduceAdd, Nat.reduceSub, Nat.reduceMul, Nat.reduceBEq, Int.reduceToNat, Int.reduceNeg, Int.reduceLE, Int.reduceLT, Int.reduceBEq, Int.reduceBNe, Int.reduceEq, eq_self, reduceCtorEq]
 refine callW_eq _ _ (f65 w z' _ hw) ?_
 simp -implicitDefEqProofs (maxSteps := 4000000) (disch := omega) only [push_cast, c58, Nat.reduceAdd, Nat.reduceSub, Nat.reduceMul, Nat.reduceBEq, Int.reduceToNat, Int.reduceNeg, Int.reduceLE, Int.reduceLT, Int.reduceBEq, Int.reduceBNe, Int.reduceEq, eq_self, reduceCtorEq]
 simp [wordB, show w.length ≤ 40000 by omega]
def c18 : VCfg := ⟨⟨[], [], [], [0, 1, 2, 4]⟩, [], [], []⟩
theorem f18 (a : List (List Int)) (z : Bool) (s : Int) :
  ACall Tryz.prog 18 [.agg [.pay (.rows a) z], .int .i64 s] (fun r objs => r = .bool (decide (0 ≤ s ∧ s < a.length)) ∧ objs = []) := by
 refine acall_intro (tyP_ok _) c18 2000 [.tmp 4] Tryz.func18 rfl (by rfl) rfl (by kernel_rfl) ?_
 unfold Tryz.f18
 simp -implicitDefEqProofs (maxSteps := 4000000) (disch := omega) only [push_cast, c18, Nat.reduceAdd, Nat.reduceSub, Nat.reduceMul, Nat.reduceBEq, Int.reduceToNat, Int.reduceNeg, Int.reduceLE, Int.reduceLT, Int.reduceBEq, Int.reduceBNe, Int.reduceEq, eq_self, reduceCtorEq]
 exact ⟨fun h => by simp [h], fun h => by simp [show ¬ 0 ≤ s by omega]⟩
end Go.AM
end

section
namespace Go.AM
open Go Go.Proofs
def c19 : VCfg := ⟨⟨[], [], [], [0, 1, 2]⟩, [], [], []⟩
theorem f19 (N O : List (List Int)) (z z' : Bool) : ACall Tryz.prog 19 [.agg [.pay (.rows (N)) (z), .pay (.rows (O)) (z')]] (fun r objs => r = .agg [.pay (.rows N) z] ∧ objs = []) := by
 refine acall_intro (tyP_ok _) c19 2000 [.cell 2 43] Tryz.func19 rfl (by rfl) rfl (by kernel_rfl) ?_
 unfold Tryz.f19
 simp -implicitDefEqProofs (maxSteps := 4000000) (disch := omega) only [push_cast, c19, Nat.reduceAdd, Nat.reduceSub, Nat.reduceMul, Nat.reduceBEq, Int.reduceToNat, Int.reduceNeg, Int.reduceLE, Int.reduceLT, Int.reduceBEq, Int.reduceBNe, Int.reduceEq, eq_self, reduceCtorEq]
def c45 : VCfg := ⟨⟨[], [], [], [0, 2]⟩, [], [], []⟩
theorem f45 (x : Int) : ACall Tryz.prog 45 [.int .i64 x] (fun r objs => r = .bool (decide (x < 0 ∨ 16 ≤ x)) ∧ objs = []) := by
 refine acall_intro (tyP_ok _) c45 2000 [.tmp 2] Tryz.func45 rfl (by rfl) rfl (by kernel_rfl) ?_
 unfold Tryz.f45
 simp -implicitDefEqProofs (maxSteps := 4000000) (disch := omega) only [push_cast, c45, Nat.reduceAdd, Nat.reduceSub, Nat.reduceMul, Nat.reduceBEq, Int.reduceToNat, Int.reduceNeg, Int.reduceLE, Int.reduceLT, Int.reduceBEq, Int.reduceBNe, Int.reduceEq, eq_self, reduceCtorEq]
 exact ⟨fun h => by simp [h], fun h => by simp [show ¬ x < 0 by omega]⟩
def c43 : VCfg := ⟨⟨[], [], [], [0, 1, 3]⟩, [], [], []⟩
theorem f43 (row : List Int) (z : Bool) (N O : List (List Int)) (z1 z2 : Bool) (h0 : 0 < N.length) (hl : row.length ≤ 4611686018427387904) : ACall Tryz.prog 43 [.pay (.ints .i64 row) z, .fref [.pay (.rows N) z1, .pay (.rows O) z2]] (fun r objs => r = .bool (!(decide (row.length = (N.getD 0 []).length) && belowB row 16)) ∧ objs = []) := by
 refine acall_intro (tyP_ok _) c43 2000 [.tmp 3] Tryz.func43 rfl (by rfl) rfl (by kernel_rfl) ?_
 unfold Tryz.f43
 simp -implicitDefEqProofs (maxSteps := 4000000) (disch := omega) only [push_cast, c43, Nat.reduceAdd, Nat.reduceSub, Nat.reduceMul, Nat.reduceBEq, Int.reduceToNat, Int.reduceNeg, Int.reduceLE, Int.reduceLT, Int.reduceBEq, Int.reduceBNe, Int.reduceEq, eq_self, reduceCtorEq]
 refine ⟨by omega, fun h => by rw [decide_eq_false h]; rfl, fun h => ?_⟩
 refine callW_eq _ _ (f44 row z hl 45 [] (fun x => decide (x < 0 ∨ 16 ≤ x)) (fun x => f45 x) (NoH.of rfl rfl)) ?_
 simp -implicitDefEqProofs (maxSteps := 4000000) (disch := omega) only [push_cast, c43, Nat.reduceAdd, Nat.reduceSub, Nat.reduceMul, Nat.reduceBEq, Int.reduceToNat, Int.reduceNeg, Int.reduceLE, Int.reduceLT, Int.reduceBEq, Int.reduceBNe, Int.reduceEq, eq_self, reduceCtorEq]
 rw [decide_eq_true h, Bool.true_and, belowB, Bool.eq_iff_iff]
 simp [List.any_eq_true, List.all_eq_true, Bool.not_eq_true']
 exact ⟨fun ⟨x, h1, h2⟩ => ⟨x, h1, fun h => by omega⟩, fun ⟨x, h1, h2⟩ => ⟨x, h1, by omega⟩⟩
def c17 : VCfg := ⟨⟨[], [], [], [0, 1, 2, 15]⟩, [], [], []⟩
theorem f17 (N O : List (List Int)) (z z' : Bool) (hl : N.length ≤ 4611686018427387904) (hl2 : ∀ r ∈ N, r.length ≤ 4611686018427387904) (ho : O.length ≤ 4611686018427387904) (ho2 : ∀ r ∈ O, r.length ≤ 4611686018427387904) :
  ACall Tryz.prog 17 [.agg [.pay (.rows (N)) (z), .pay (.rows (O)) (z')]] (fun r objs => r = .bool (vmB N O) ∧ objs = []) := by
 refine acall_intro (tyP_ok _) c17 2000 [.tmp 2] Tryz.func17 rfl (by rfl) rfl (by kernel_rfl) ?_
 unfold Tryz.f17
 simp -implicitDefEqProofs (maxSteps := 4000000) (disch := omega) only [push_cast, c17, Nat.reduceAdd, Nat.reduceSub, Nat.reduceMul, Nat.reduceBEq, Int.reduceToNat, Int.reduceNeg, Int.reduceLE, Int.reduceLT, Int.reduceBEq, Int.reduceBNe, Int.reduceEq, eq_self, reduceCtorEq]
 refine callW_eq _ _ (f19 N O z z') ?_
 simp -implicitDefEqProofs (maxSteps := 4000000) (disch := omega) only [push_cast, c17, Nat.reduceAdd, Nat.reduceSub, Nat.reduceMul, Nat.reduceBEq, Int.reduceToNat, Int.reduceNeg, Int.reduceLE, Int.reduceLT, Int.reduceBEq, Int.reduceBNe, Int.reduceEq, eq_self, reduceCtorEq]
 refine callW_eq _ _ (f41 N z hl hl2) ?_
 simp -implicitDefEqProofs (maxSteps := 4000000) (disch := omega) only [push_cast, c17, Nat.reduceAdd, Nat.reduceSub, Nat.reduceMul, Nat.reduceBEq, Int.reduceToNat, Int.reduceNeg, Int.reduceLE, Int.reduceLT, Int.reduceBEq, Int.reduceBNe, Int.reduceEq, eq_self, reduceCtorEq]
 refine ⟨fun hv => vmB_false fun h => ?_, fun hv => ⟨fun hne => vmB_false fun h => hne h.ol, fun heq => ?_⟩⟩
 ·rw [vldB_iff.2 h.v] at hv; cases hv
 have hV := vldB_iff.1 hv
 have hn := hV.n1
 refine callW_eq _ _ (f42 O z' ho 43 _ (fun row => !(decide (row.length = (N.getD 0 []).length) && belowB row 16)) (fun x hx => f43 x false N O z z' (by omega) (ho2 x hx)) (NoH.of rfl rfl)) ?_
 simp -implicitDefEqProofs (maxSteps := 4000000) (disch := omega) only [push_cast, c17, Nat.reduceAdd, Nat.reduceSub, Nat.reduceMul, Nat.reduceBEq, Int.reduceToNat, Int.reduceNeg, Int.reduceLE, Int.reduceLT, Int.reduceBEq, Int.reduceBNe, Int.reduceEq, eq_self, reduceCtorEq]
 rw [Bool.eq_iff_iff, vmB_iff]
 simp only [Bool.not_eq_true', List.any_eq_false, Bool.not_eq_true', Bool.not_eq_false, Bool.not_eq_true]
 constructor
 ·intro h5
  refine ⟨hV, heq, fun r hr => ?_⟩
  have := h5 r hr
  simp only [Bool.not_eq_false', Bool.and_eq_true, decide_eq_true_eq, belowB_iff] at this
  exact this
 ·intro hm r hr
  have := hm.orow r hr
  simp only [Bool.not_eq_false', Bool.and_eq_true, decide_eq_true_eq, belowB_iff]
  exact this
def c28 : VCfg := ⟨⟨[], [], [], [0, 1, 2, 3, 4, 5, 14, 17, 49, 57, 80]⟩, [(7, (.op 0 .loose (.op 1 .loose (.op 2 .loose (.op 3 .loose (.op 4 .loose (.op 5 .loose (.op 6 .loose (.op 7 .loose (.op 8 .loose (.op 9 .loose (.op 10 .loose (.op 11 .loose (.op 12 .loose (.op 13 .loose (.op 14 .loose (.op 15 .loose (.op 16 .loose (.op 17 .loose (.op 18 .loose (.op 19 .loose (.op 20 .loose (.op 21 .loose (.op 22 .loose (.op 23 .loose (.op 24 .loose (.op 25 .loose (.op 26 .loose (.op 27 .loose (.op 28 .loose (.op 29 .loose .nil)))))))))))))))))))))))))))))))], [], []⟩
theorem f28 (a : List (List Int)) (z : Bool) (hl : a.length ≤ 4611686018427387904) (hl2 : ∀ r ∈ a, r.length ≤ 4611686018427387904) :
  ACall Tryz.prog 28 [.agg [.pay (.rows a) z]] (fun r objs => r = .bool (vldB a) ∧ objs = []) := by
 refine acall_intro (tyP_ok _) c28 2000 [.tmp 2] Tryz.func28 rfl (by rfl) rfl (by kernel_rfl) ?_
 unfold Tryz.f28
 simp -implicitDefEqProofs (maxSteps := 4000000) (disch := omega) only [push_cast, c28, Nat.reduceAdd, Nat.reduceSub, Nat.reduceMul, Nat.reduceBEq, Int.reduceToNat, Int.reduceNeg, Int.reduceLE, Int.reduceLT, Int.reduceBEq, Int.reduceBNe, Int.reduceEq, eq_self, reduceCtorEq]
 refine ⟨fun h => vldB_false fun hv => by have := hv.n1; omega, fun h => ⟨fun h2 => vldB_false fun hv => by have := hv.n2; omega, fun h2 => ?_⟩⟩
 refine awp_upto (tyP_ok _) c28 2000 [1, 2, 3, 4] (a.length) (fun i => ∀ j, j < i → (1 ≤ (a.getD j []).length ∧ (a.getD j []).length ≤ 6) ∧ (a.getD j []).length = (a.getD 0 []).length ∧ belowB (a.getD j []) a.length = true) (fun i => ⟨81, [(1, .fref [.pay (.rows a) z]), (2, .bool false), (3, .int .i64 a.length), (4, .int .i64 i)], []⟩) (by kernel_rfl) ?_ ?_ ?_
 ·simp -implicitDefEqProofs (maxSteps := 4000000) (disch := omega) only [push_cast, c28, Nat.reduceAdd, Nat.reduceSub, Nat.reduceMul, Nat.reduceBEq, Int.reduceToNat, Int.reduceNeg, Int.reduceLE, Int.reduceLT, Int.reduceBEq, Int.reduceBNe, Int.reduceEq, eq_self, reduceCtorEq]
 ·exact fun j hj => by omega
 intro i hi hr
 simp -implicitDefEqProofs (maxSteps := 4000000) (disch := omega) only [push_cast, c28, Nat.reduceAdd, Nat.reduceSub, Nat.reduceMul, Nat.reduceBEq, Int.reduceToNat, Int.reduceNeg, Int.reduceLE, Int.reduceLT, Int.reduceBEq, Int.reduceBNe, Int.reduceEq, eq_self, reduceCtorEq]
 have bad : ∀ {Q : Prop}, i < a.length → (Vld a (a.getD 0 []).length → Q → False) → Q → false = vldB a := fun _ h hq => vldB_false fun hv => h hv hq
 refine ⟨fun hlt => ⟨hlt, bad hlt fun hv h => by have := (hv.row _ (getD_mem' hlt)).1; have := hv.k1; omega, fun h1 => ⟨hlt, bad hlt fun hv h => by have := (hv.row _ (getD_mem' hlt)).1; have := hv.k2; omega, fun h6 => ⟨hlt, by omega, bad hlt fun hv h => h (hv.row _ (getD_mem' hlt)).1, fun he => ?_⟩⟩⟩, fun hge => ?_⟩
 ·refine awp_upto (tyP_ok _) c28 2000 [1, 2, 3, 4, 5] ((a.getD i []).length) (fun k => ∀ j, j < k → 0 ≤ (a.getD i []).getD j 0 ∧ (a.getD i []).getD j 0 < a.length) (fun k => ⟨81, [(1, .fref [.pay (.rows a) z]), (2, .bool false), (3, .int .i64 a.length), (4, .int .i64 i), (5, .int .i64 k)], []⟩) (by kernel_rfl) ?_ ?_ ?_
  ·simp -implicitDefEqProofs (maxSteps := 4000000) (disch := omega) only [push_cast, c28, Nat.reduceAdd, Nat.reduceSub, Nat.reduceMul, Nat.reduceBEq, Int.reduceToNat, Int.reduceNeg, Int.reduceLE, Int.reduceLT, Int.reduceBEq, Int.reduceBNe, Int.reduceEq, eq_self, reduceCtorEq]
  ·exact fun j hj => by omega
  intro k hk hrk
  have hil := hl2 _ (getD_mem' hlt)
  simp -implicitDefEqProofs (maxSteps := 4000000) (disch := omega) only [push_cast, c28, Nat.reduceAdd, Nat.reduceSub, Nat.reduceMul, Nat.reduceBEq, Int.reduceToNat, Int.reduceNeg, Int.reduceLE, Int.reduceLT, Int.reduceBEq, Int.reduceBNe, Int.reduceEq, eq_self, reduceCtorEq]
  have bad2 : k < (a.getD i []).length → (Q : Prop) → ((0 ≤ (a.getD i []).getD k 0 ∧ (a.getD i []).getD k 0 < a.length) → Q → False) → Q → false = vldB a := fun hk Q h hq => vldB_false fun hv => h ((hv.row _ (getD_mem' hlt)).2 _ (getD_mem hk)) hq
  refine ⟨hlt, fun hkl => ⟨hlt, hkl, bad2 hkl _ fun h1 h2 => by omega, fun h0 => ⟨hlt, hkl, bad2 hkl _ fun h1 h2 => by omega, fun h3 => ⟨hkl, upto_succ hrk ⟨h0, h3⟩⟩⟩⟩, fun hge => ⟨hlt, upto_succ hr ⟨⟨by omega, by omega⟩, he, belowB_iff.2 (all_of_getD (p := fun x => 0 ≤ x ∧ x < a.length) fun j hj => hrk j (by omega))⟩⟩⟩
 ·have h0 := hr 0 (by omega)
  exact vldB_true (by omega) (by omega) (by omega) (by omega) fun j hj => (hr j (by omega)).2
def c7 : VCfg := ⟨⟨[], [], [], [0, 1, 2, 3, 4, 18, 23, 38, 46, 68]⟩, [(6, (.op 0 .loose (.op 1 .loose (.op 2 .loose (.op 3 .loose (.op 4 .loose (.op 5 .loose (.op 6 .loose (.op 7 .loose (.op 8 .loose (.op 9 .loose (.op 10 .loose (.op 11 .loose (.op 12 .loose .nil))))))))))))))], [], []⟩
theorem f7 (N O : List (List Int)) (z z' : Bool) (hl : N.length ≤ 4611686018427387904) (hl2 : ∀ r ∈ N, r.length ≤ 4611686018427387904) (ho : O.length ≤ 4611686018427387904) (ho2 : ∀ r ∈ O, r.length ≤ 4611686018427387904) :
  ACall Tryz.prog 7 [.agg [.pay (.rows (N)) (z), .pay (.rows (O)) (z')]] (fun r objs => r = .bool (vmB N O) ∧ objs = []) := by
 refine acall_intro (tyP_ok _) c7 2000 [.tmp 2] Tryz.func7 rfl (by rfl) rfl (by kernel_rfl) ?_
 unfold Tryz.f7
 simp -implicitDefEqProofs (maxSteps := 4000000) (disch := omega) only [push_cast, c7, Nat.reduceAdd, Nat.reduceSub, Nat.reduceMul, Nat.reduceBEq, Int.reduceToNat, Int.reduceNeg, Int.reduceLE, Int.reduceLT, Int.reduceBEq, Int.reduceBNe, Int.reduceEq, eq_self, reduceCtorEq]
 refine callW_eq _ _ (f28 N z hl hl2) ?_
 simp -implicitDefEqProofs (maxSteps := 4000000) (disch := omega) only [push_cast, c7, Nat.reduceAdd, Nat.reduceSub, Nat.reduceMul, Nat.reduceBEq, Int.reduceToNat, Int.reduceNeg, Int.reduceLE, Int.reduceLT, Int.reduceBEq, Int.reduceBNe, Int.reduceEq, eq_self, reduceCtorEq]
 refine ⟨fun hv => vmB_false fun h => ?_, fun hv => ⟨fun hne => vmB_false fun h => hne h.ol, fun heq => ?_⟩⟩
 ·rw [vldB_iff.2 h.v] at hv; cases hv
 have hV := vldB_iff.1 hv
 have hn := hV.n1
 refine awp_upto (tyP_ok _) c7 2000 [1, 2, 3] (O.length) (fun i => ∀ j, j < i → (O.getD j []).length = (N.getD 0 []).length ∧ ∀ x ∈ O.getD j [], 0 ≤ x ∧ x < 16) (fun i => ⟨69, [(1, .fref [.pay (.rows N) z, .pay (.rows O) z']), (2, .bool false), (3, .int .i64 i)], []⟩) (by kernel_rfl) ?_ ?_ ?_
 ·simp -implicitDefEqProofs (maxSteps := 4000000) (disch := omega) only [push_cast, c7, Nat.reduceAdd, Nat.reduceSub, Nat.reduceMul, Nat.reduceBEq, Int.reduceToNat, Int.reduceNeg, Int.reduceLE, Int.reduceLT, Int.reduceBEq, Int.reduceBNe, Int.reduceEq, eq_self, reduceCtorEq]
 ·exact fun j hj => by omega
 intro i hi hr
 simp -implicitDefEqProofs (maxSteps := 4000000) (disch := omega) only [push_cast, c7, Nat.reduceAdd, Nat.reduceSub, Nat.reduceMul, Nat.reduceBEq, Int.reduceToNat, Int.reduceNeg, Int.reduceLE, Int.reduceLT, Int.reduceBEq, Int.reduceBNe, Int.reduceEq, eq_self, reduceCtorEq]
 refine ⟨fun hlt => ⟨hlt, by omega, ?_⟩, fun hge => ?_⟩
 ·have hNi := (hV.row _ (getD_mem' (show i < N.length by omega))).1
  refine ⟨fun hne => vmB_false fun h => hne ?_, fun he => ?_⟩
  ·rw [hNi]; exact (h.orow _ (getD_mem' hlt)).1
  refine awp_upto (tyP_ok _) c7 2000 [1, 2, 3, 4] ((O.getD i []).length) (fun k => ∀ j, j < k → 0 ≤ (O.getD i []).getD j 0 ∧ (O.getD i []).getD j 0 < 16) (fun k => ⟨69, [(1, .fref [.pay (.rows N) z, .pay (.rows O) z']), (2, .bool false), (3, .int .i64 i), (4, .int .i64 k)], []⟩) (by kernel_rfl) ?_ ?_ ?_
  ·simp -implicitDefEqProofs (maxSteps := 4000000) (disch := omega) only [push_cast, c7, Nat.reduceAdd, Nat.reduceSub, Nat.reduceMul, Nat.reduceBEq, Int.reduceToNat, Int.reduceNeg, Int.reduceLE, Int.reduceLT, Int.reduceBEq, Int.reduceBNe, Int.reduceEq, eq_self, reduceCtorEq]
  ·exact fun j hj => by omega
  intro k hk hrk
  have hil := ho2 _ (getD_mem' hlt)
  simp -implicitDefEqProofs (maxSteps := 4000000) (disch := omega) only [push_cast, c7, Nat.reduceAdd, Nat.reduceSub, Nat.reduceMul, Nat.reduceBEq, Int.reduceToNat, Int.reduceNeg, Int.reduceLE, Int.reduceLT, Int.reduceBEq, Int.reduceBNe, Int.reduceEq, eq_self, reduceCtorEq]
  have bad2 : k < (O.getD i []).length → (Q : Prop) → ((0 ≤ (O.getD i []).getD k 0 ∧ (O.getD i []).getD k 0 < 16) → Q → False) → Q → false = vmB N O := fun hk Q h hq => vmB_false fun hv => h ((hv.orow _ (getD_mem' hlt)).2 _ (getD_mem hk)) hq
  refine ⟨hlt, fun hkl => ⟨hlt, hkl, bad2 hkl _ fun h1 h2 => by omega, fun h0 => ⟨hlt, hkl, bad2 hkl _ fun h1 h2 => by omega, fun h3 => ⟨hkl, upto_succ hrk ⟨h0, h3⟩⟩⟩⟩, fun hge => ⟨hlt, upto_succ hr ⟨by omega, all_of_getD (p := fun x => 0 ≤ x ∧ x < 16) fun j hj => hrk j (by omega)⟩⟩⟩
 ·refine vmB_true ⟨hV, heq, fun r hr' => ?_⟩
  obtain ⟨j, hj, rfl⟩ := List.getElem_of_mem hr'
  have := hr j (by omega)
  rwa [show O.getD j [] = O[j] by simp [hj]] at this
def c57 : VCfg := ⟨⟨[], [], [], [0, 1, 2]⟩, [], [], []⟩
theorem f57 (N O : List (List Int)) (z z' : Bool) (h : 0 < N.length) : ACall Tryz.prog 57 [.agg [.pay (.rows (N)) (z), .pay (.rows (O)) (z')]] (fun r objs => r = .int .i64 (N.getD 0 []).length ∧ objs = []) := by
 refine acall_intro (tyP_ok _) c57 2000 [.tmp 2] Tryz.func57 rfl (by rfl) rfl (by kernel_rfl) ?_
 unfold Tryz.f57
 simp -implicitDefEqProofs (maxSteps := 4000000) (disch := omega) only [push_cast, c57, Nat.reduceAdd, Nat.reduceSub, Nat.reduceMul, Nat.reduceBEq, Int.reduceToNat, Int.reduceNeg, Int.reduceLE, Int.reduceLT, Int.reduceBEq, Int.reduceBNe, Int.reduceEq, eq_self, reduceCtorEq]
 exact h
def c11 : VCfg := ⟨⟨[], [], [], [0, 2, 3, 11, 19]⟩, [], [], []⟩
theorem f11 (L : List (List Int)) (z : Bool) (hl : L.length ≤ 4611686018427387904) : ACall Tryz.prog 11 [.pay (.rows L) z] (fun r objs => ∃ b, r = .bool b ∧ (b = false → L.length ≤ 100 ∧ ∀ r ∈ L, r.length ≤ 100) ∧ objs = []) := by
 refine acall_intro (tyP_ok _) c11 2000 [.tmp 2] Tryz.func11 rfl (by rfl) rfl (by kernel_rfl) ?_
 unfold Tryz.f11
 simp -implicitDefEqProofs (maxSteps := 4000000) (disch := omega) only [push_cast, c11, Nat.reduceAdd, Nat.reduceSub, Nat.reduceMul, Nat.reduceBEq, Int.reduceToNat, Int.reduceNeg, Int.reduceLE, Int.reduceLT, Int.reduceBEq, Int.reduceBNe, Int.reduceEq, eq_self, reduceCtorEq]
 refine awp_upto (tyP_ok _) c11 2000 [0, 2, 3] (L.length) (fun i => ∀ j, j < i → (L.getD j []).length ≤ 100) (fun i => ⟨23, [(0, .pay (.rows L) z), (2, .bool false), (3, .int .i64 i)], []⟩) (by kernel_rfl) ?_ ?_ ?_
 ·simp -implicitDefEqProofs (maxSteps := 4000000) (disch := omega) only [push_cast, c11, Nat.reduceAdd, Nat.reduceSub, Nat.reduceMul, Nat.reduceBEq, Int.reduceToNat, Int.reduceNeg, Int.reduceLE, Int.reduceLT, Int.reduceBEq, Int.reduceBNe, Int.reduceEq, eq_self, reduceCtorEq]
 ·exact fun j hj => by omega
 intro i hi hr
 simp -implicitDefEqProofs (maxSteps := 4000000) (disch := omega) only [push_cast, c11, Nat.reduceAdd, Nat.reduceSub, Nat.reduceMul, Nat.reduceBEq, Int.reduceToNat, Int.reduceNeg, Int.reduceLE, Int.reduceLT, Int.reduceBEq, Int.reduceBNe, Int.reduceEq, eq_self, reduceCtorEq]
 have key : L.length ≤ 100 → L.length ≤ i ∨ 100 ≤ i → ∀ r ∈ L, r.length ≤ 100 := fun h1 h2 r hr' => by
  obtain ⟨j, hj, rfl⟩ := List.getElem_of_mem hr'
  have := hr j (by omega)
  rwa [show L.getD j [] = L[j] by simp [hj]] at this
 refine ⟨fun hlt => ⟨fun h100 => ⟨hlt, fun hgt => ⟨true, rfl, fun h => by cases h⟩, fun hle => ⟨hlt, upto_succ hr (by omega)⟩⟩, fun h100 => ⟨_, rfl, fun h => ?_⟩⟩, fun hge => ⟨_, rfl, fun h => ?_⟩⟩
 all_goals
  have h9 : L.length ≤ 100 := by simp at h; omega
  exact ⟨h9, key h9 (by omega)⟩
def c4 : VCfg := ⟨⟨[], [], [], [0, 1, 2]⟩, [], [], []⟩
theorem f4 (N O : List (List Int)) (z z' : Bool) (hl : N.length ≤ 4611686018427387904) (ho : O.length ≤ 4611686018427387904) : ACall Tryz.prog 4 [.agg [.pay (.rows (N)) (z), .pay (.rows (O)) (z')]] (fun r objs => ∃ b, r = .bool b ∧ (b = false → (N.length ≤ 100 ∧ ∀ r ∈ N, r.length ≤ 100) ∧ O.length ≤ 100 ∧ ∀ r ∈ O, r.length ≤ 100) ∧ objs = []) := by
 refine acall_intro (tyP_ok _) c4 2000 [.tmp 2] Tryz.func4 rfl (by rfl) rfl (by kernel_rfl) ?_
 unfold Tryz.f4
 simp -implicitDefEqProofs (maxSteps := 4000000) (disch := omega) only [push_cast, c4, Nat.reduceAdd, Nat.reduceSub, Nat.reduceMul, Nat.reduceBEq, Int.reduceToNat, Int.reduceNeg, Int.reduceLE, Int.reduceLT, Int.reduceBEq, Int.reduceBNe, Int.reduceEq, eq_self, reduceCtorEq]
 refine callW_rel (f11 N z hl) ?_
 rintro R O' ⟨b, rfl, hb, rfl⟩
 simp -implicitDefEqProofs (maxSteps := 4000000) (disch := omega) only [push_cast, c4, Nat.reduceAdd, Nat.reduceSub, Nat.reduceMul, Nat.reduceBEq, Int.reduceToNat, Int.reduceNeg, Int.reduceLE, Int.reduceLT, Int.reduceBEq, Int.reduceBNe, Int.reduceEq, eq_self, reduceCtorEq]
 refine ⟨fun h => ⟨true, rfl, fun h => by cases h⟩, fun h => ?_⟩
 refine callW_rel (f11 O z' ho) ?_
 rintro R O' ⟨b2, rfl, hb2, rfl⟩
 simp -implicitDefEqProofs (maxSteps := 4000000) (disch := omega) only [push_cast, c4, Nat.reduceAdd, Nat.reduceSub, Nat.reduceMul, Nat.reduceBEq, Int.reduceToNat, Int.reduceNeg, Int.reduceLE, Int.reduceLT, Int.reduceBEq, Int.reduceBNe, Int.reduceEq, eq_self, reduceCtorEq]
 exact ⟨b2, rfl, fun h2 => ⟨hb h, hb2 h2⟩⟩
def c10 : VCfg := ⟨⟨[], [], [], [0, 1, 4, 5, 10, 14, 25]⟩, [(6, (.op 0 .loose (.op 1 .loose (.op 2 .loose (.op 3 .loose (.op 4 .loose (.op 5 .loose (.op 6 .loose (.op 7 .loose (.op 8 .loose .nil))))))))))], [], []⟩
theorem f10 (x y : List Int) (z z' : Bool) (hx : x.length ≤ 4611686018427387904) :
  ACall Tryz.prog 10 [.pay (.ints .i64 x) z, .pay (.ints .i64 y) z'] (fun r objs => r = .bool (decide (x = y)) ∧ objs = []) := by
 refine acall_intro (tyP_ok _) c10 2000 [.tmp 4] Tryz.func10 rfl (by rfl) rfl (by kernel_rfl) ?_
 unfold Tryz.f10
 simp -implicitDefEqProofs (maxSteps := 4000000) (disch := omega) only [push_cast, c10, Nat.reduceAdd, Nat.reduceSub, Nat.reduceMul, Nat.reduceBEq, Int.reduceToNat, Int.reduceNeg, Int.reduceLE, Int.reduceLT, Int.reduceBEq, Int.reduceBNe, Int.reduceEq, eq_self, reduceCtorEq]
 refine ⟨fun hne => ?_, fun heq => ?_⟩
 ·have : x ≠ y := fun e => by subst e; simp at hne
  simp [this]
 refine awp_upto (tyP_ok _) c10 2000 [0, 1, 4, 5] (x.length) (fun i => ∀ j, j < i → x.getD j 0 = y.getD j 0) (fun i => ⟨26, [(0, .pay (.ints .i64 x) z), (1, .pay (.ints .i64 y) z'), (4, .bool false), (5, .int .i64 i)], []⟩) (by kernel_rfl) rfl ?_ ?_
 ·exact fun j hj => by omega
 intro i hi hp
 simp -implicitDefEqProofs (maxSteps := 4000000) (disch := omega) only [push_cast, c10, Nat.reduceAdd, Nat.reduceSub, Nat.reduceMul, Nat.reduceBEq, Int.reduceToNat, Int.reduceNeg, Int.reduceLE, Int.reduceLT, Int.reduceBEq, Int.reduceBNe, Int.reduceEq, eq_self, reduceCtorEq]
 refine ⟨fun hlt => ⟨hlt, by omega, fun hne => ?_, fun he => ⟨hlt, upto_succ hp he⟩⟩, fun hge => ?_⟩
 ·have : x ≠ y := fun e => hne (by rw [e])
  simp [this]
 ·have : x = y := ints_eq' heq fun j hj => hp j (by omega)
  simp [this]
theorem rows_eq' {x y : List (List Int)} (h : x.length = y.length) (he : ∀ j, j < x.length → x.getD j [] = y.getD j []) : x = y := by
 refine List.ext_getElem h fun j h1 h2 => ?_
 have := he j h1
 simpa [List.getD, h1, h2] using this
def c13 : VCfg := ⟨⟨[], [], [], [0]⟩, [], [], []⟩
theorem f13 : ACall Tryz.prog 13 [] (fun r objs => r = .agg [.pay (.rows ([[1, 0], [0, 1]])) (false), .pay (.rows ([[0, 1], [0, 0]])) (false)] ∧ objs = []) := by
 suffices h : ACall Tryz.prog 13 [] (fun r objs => r = .agg [.own 0, .own 1] ∧ objs = [.arr (.rows [[1, 0], [0, 1]]) ⟨27, false⟩, .arr (.rows [[0, 1], [0, 0]]) ⟨27, false⟩]) by
  refine h.frz ?_
  rintro r objs ⟨rfl, rfl⟩
  exact ⟨[0, 1], _, 2, rfl, rfl, rfl⟩
 refine acall_intro (tyP_ok _) c13 2000 [.cell 0 24] Tryz.func13 rfl (by rfl) rfl (by kernel_rfl) ?_
 unfold Tryz.f13
 simp -implicitDefEqProofs (maxSteps := 4000000) (disch := omega) only [push_cast, c13, Nat.reduceAdd, Nat.reduceSub, Nat.reduceMul, Nat.reduceBEq, Int.reduceToNat, Int.reduceNeg, Int.reduceLE, Int.reduceLT, Int.reduceBEq, Int.reduceBNe, Int.reduceEq, eq_self, reduceCtorEq]
def c32 : VCfg := ⟨⟨[], [], [], [0, 1, 4, 5, 15, 26]⟩, [(4, (.op 0 .loose (.op 1 .loose (.op 2 .loose (.op 3 .loose (.op 4 .loose (.op 5 .loose (.op 6 .loose (.op 7 .loose (.op 8 .loose .nil)))))))))), (5, (.op 0 .loose (.op 1 .loose (.op 2 .loose (.op 3 .loose (.op 4 .loose (.op 5 .loose (.op 6 .loose (.op 7 .loose (.op 8 .loose (.op 9 .loose .nil)))))))))))], [], []⟩
theorem f32 (x y : List Int) (z z' : Bool) (hx : x.length ≤ 4611686018427387904) :
  ACall Tryz.prog 32 [.pay (.ints .i64 x) z, .pay (.ints .i64 y) z'] (fun r objs => r = .bool (befB x y) ∧ objs = []) := by
 refine acall_intro (tyP_ok _) c32 2000 [.tmp 4] Tryz.func32 rfl (by rfl) rfl (by kernel_rfl) ?_
 unfold Tryz.f32
 simp -implicitDefEqProofs (maxSteps := 4000000) (disch := omega) only [push_cast, c32, Nat.reduceAdd, Nat.reduceSub, Nat.reduceMul, Nat.reduceBEq, Int.reduceToNat, Int.reduceNeg, Int.reduceLE, Int.reduceLT, Int.reduceBEq, Int.reduceBNe, Int.reduceEq, eq_self, reduceCtorEq]
 refine awp_upto (tyP_ok _) c32 2000 [0, 1, 4, 5] (x.length) (fun i => i ≤ y.length ∧ ∀ j, j < i → x.getD j 0 = y.getD j 0) (fun i => ⟨41, [(0, .pay (.ints .i64 x) z), (1, .pay (.ints .i64 y) z'), (4, .bool false), (5, .int .i64 i)], []⟩) (by kernel_rfl) ?_ ?_ ?_
 ·simp -implicitDefEqProofs (maxSteps := 4000000) (disch := omega) only [push_cast, c32, Nat.reduceAdd, Nat.reduceSub, Nat.reduceMul, Nat.reduceBEq, Int.reduceToNat, Int.reduceNeg, Int.reduceLE, Int.reduceLT, Int.reduceBEq, Int.reduceBNe, Int.reduceEq, eq_self, reduceCtorEq]
 ·exact ⟨by omega, fun j hj => by omega⟩
 intro i hi hp
 simp -implicitDefEqProofs (maxSteps := 4000000) (disch := omega) only [push_cast, c32, Nat.reduceAdd, Nat.reduceSub, Nat.reduceMul, Nat.reduceBEq, Int.reduceToNat, Int.reduceNeg, Int.reduceLE, Int.reduceLT, Int.reduceBEq, Int.reduceBNe, Int.reduceEq, eq_self, reduceCtorEq]
 refine ⟨fun hlt => ⟨fun hly => ⟨hlt, hly, fun hne => ⟨hlt, hly, (befB_ne hp.2 hlt hly hne).symm⟩, fun he => ⟨hlt, by omega, upto_succ hp.2 he⟩⟩, fun hge => (befB_end hp.2 hi hp.1 (by omega)).symm⟩, fun hge => (befB_end hp.2 hi hp.1 (by omega)).symm⟩
end Go.AM
end

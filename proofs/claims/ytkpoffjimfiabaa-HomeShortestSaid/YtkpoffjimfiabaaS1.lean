/-
  Contracts of the package auto's functions, of Valid on both sides and of the chapter's small functions; conditions in each statement.
-/
import Derived.Test.YtkpoffjimfiabaaF4
import Derived.Test.YtkpoffjimfiabaaProg
import Derived.KernelRfl
import Derived.Test.YtkpoffjimfiabaaP1
import Derived.Test.YtkpoffjimfiabaaP2
import Derived.Test.YtkpoffjimfiabaaF5
set_option linter.unusedVariables false
set_option linter.unusedSimpArgs false
set_option linter.unusedSectionVars false
set_option linter.unnecessarySimpa false

section
namespace Go.AM
open Go Go.Proofs
def zrep (n : Nat) : List AV := List.replicate n (.int .i64 0)
theorem zrep_len (n : Nat) : (zrep n).length = n := by simp [zrep]
attribute [push_cast] zrep_len
theorem t3 : tyP Try.prog 3 = some ⟨1, 8, .int .i64, .int .i64 0⟩ := by kernel_rfl
theorem t4 : tyP Try.prog 4 = some ⟨1, 1, .bool, .bool false⟩ := by kernel_rfl
theorem t5 : tyP Try.prog 5 = some ⟨1, 1, .int .u8, .int .u8 0⟩ := by kernel_rfl
theorem t9 : tyP Try.prog 9 = some ⟨1, 16, .str, .str ByteArray.empty⟩ := by kernel_rfl
theorem t22 : tyP Try.prog 22 = some ⟨1, 24, .slice 25, .lit (.slice none 0 0)⟩ := by kernel_rfl
theorem t24 : tyP Try.prog 24 = some ⟨2, 48, .struct [(0, 22), (1, 22)], .agg [.lit (.slice none 0 0), .lit (.slice none 0 0)]⟩ := by kernel_rfl
theorem t25 : tyP Try.prog 25 = some ⟨1, 24, .slice 3, .lit (.slice none 0 0)⟩ := by kernel_rfl
theorem t28 : tyP Try.prog 28 = some ⟨1, 8, .int .i64, .int .i64 0⟩ := by kernel_rfl
theorem t43 : tyP Try.prog 43 = some ⟨1, 24, .struct [(0, 22)], .agg [.lit (.slice none 0 0)]⟩ := by kernel_rfl
theorem t50 : tyP Try.prog 50 = some ⟨3, 40, .struct [(0, 3), (1, 3), (2, 25)], .agg [.int .i64 0, .int .i64 0, .lit (.slice none 0 0)]⟩ := by kernel_rfl
theorem t65 : tyP Try.prog 65 = some ⟨1, 8, .ptr 97, .lit (.pointer none)⟩ := by kernel_rfl
theorem t73 : tyP Try.prog 73 = some ⟨1, 24, .slice 4, .lit (.slice none 0 0)⟩ := by kernel_rfl
theorem t94 : tyP Try.prog 94 = some ⟨60, 480, .array 60 3, .agg [.int .i64 0, .int .i64 0, .int .i64 0, .int .i64 0, .int .i64 0, .int .i64 0, .int .i64 0, .int .i64 0, .int .i64 0, .int .i64 0, .int .i64 0, .int .i64 0, .int .i64 0, .int .i64 0, .int .i64 0, .int .i64 0, .int .i64 0, .int .i64 0, .int .i64 0, .int .i64 0, .int .i64 0, .int .i64 0, .int .i64 0, .int .i64 0, .int .i64 0, .int .i64 0, .int .i64 0, .int .i64 0, .int .i64 0, .int .i64 0, .int .i64 0, .int .i64 0, .int .i64 0, .int .i64 0, .int .i64 0, .int .i64 0, .int .i64 0, .int .i64 0, .int .i64 0, .int .i64 0, .int .i64 0, .int .i64 0, .int .i64 0, .int .i64 0, .int .i64 0, .int .i64 0, .int .i64 0, .int .i64 0, .int .i64 0, .int .i64 0, .int .i64 0, .int .i64 0, .int .i64 0, .int .i64 0, .int .i64 0, .int .i64 0, .int .i64 0, .int .i64 0, .int .i64 0, .int .i64 0]⟩ := by kernel_rfl
theorem t95 : tyP Try.prog 95 = some ⟨3600, 28800, .array 60 94, .agg (zrep 3600)⟩ := by kernel_rfl
theorem t97 : tyP Try.prog 97 = some ⟨3603, 28856, .struct [(0, 24), (2, 4), (3, 95)], .agg ([.lit (.slice none 0 0), .lit (.slice none 0 0), .bool false] ++ zrep 3600)⟩ := by kernel_rfl
theorem t106 : tyP Try.prog 106 = some ⟨3, 40, .struct [(0, 22), (1, 3), (2, 3)], .agg [.lit (.slice none 0 0), .int .i64 0, .int .i64 0]⟩ := by kernel_rfl
theorem t107 : tyP Try.prog 107 = some ⟨1, 24, .slice 106, .lit (.slice none 0 0)⟩ := by kernel_rfl
theorem t109 : tyP Try.prog 109 = some ⟨1, 8, .map 9 4, .lit (.map none)⟩ := by kernel_rfl
theorem t110 : tyP Try.prog 110 = some ⟨1, 24, .slice 3, .lit (.slice none 0 0)⟩ := by kernel_rfl
theorem t112 : tyP Try.prog 112 = some ⟨1, 8, .int .u64, .int .u64 0⟩ := by kernel_rfl
theorem t113 : tyP Try.prog 113 = some ⟨1, 24, .slice 110, .lit (.slice none 0 0)⟩ := by kernel_rfl
theorem t118 : tyP Try.prog 118 = some ⟨1, 8, .ptr 120, .lit (.pointer none)⟩ := by kernel_rfl
theorem t120 : tyP Try.prog 120 = some ⟨3, 56, .struct [(0, 24), (2, 3)], .agg [.lit (.slice none 0 0), .lit (.slice none 0 0), .int .i64 0]⟩ := by kernel_rfl
theorem t130 : tyP Try.prog 130 = some ⟨16, 384, .array 16 25, .agg [.lit (.slice none 0 0), .lit (.slice none 0 0), .lit (.slice none 0 0), .lit (.slice none 0 0), .lit (.slice none 0 0), .lit (.slice none 0 0), .lit (.slice none 0 0), .lit (.slice none 0 0), .lit (.slice none 0 0), .lit (.slice none 0 0), .lit (.slice none 0 0), .lit (.slice none 0 0), .lit (.slice none 0 0), .lit (.slice none 0 0), .lit (.slice none 0 0), .lit (.slice none 0 0)]⟩ := by kernel_rfl
theorem t132 : tyP Try.prog 132 = some ⟨1, 24, .slice 5, .lit (.slice none 0 0)⟩ := by kernel_rfl
theorem t133 : tyP Try.prog 133 = some ⟨16, 128, .array 16 3, .agg [.int .i64 0, .int .i64 0, .int .i64 0, .int .i64 0, .int .i64 0, .int .i64 0, .int .i64 0, .int .i64 0, .int .i64 0, .int .i64 0, .int .i64 0, .int .i64 0, .int .i64 0, .int .i64 0, .int .i64 0, .int .i64 0]⟩ := by kernel_rfl
theorem t150 : tyP Try.prog 150 = some ⟨1, 8, .map 152 3, .lit (.map none)⟩ := by kernel_rfl
theorem t152 : tyP Try.prog 152 = some ⟨13, 104, .array 13 3, .agg [.int .i64 0, .int .i64 0, .int .i64 0, .int .i64 0, .int .i64 0, .int .i64 0, .int .i64 0, .int .i64 0, .int .i64 0, .int .i64 0, .int .i64 0, .int .i64 0, .int .i64 0]⟩ := by kernel_rfl
attribute [push_cast] t3 t4 t5 t9 t22 t24 t25 t28 t43 t50 t65 t73 t94 t95 t97 t106 t107 t109 t110 t112 t113 t118 t120 t130 t132 t133 t150 t152
end Go.AM
end

section
namespace Go.AM
open Go Go.Proofs
def c96 : VCfg := ⟨⟨[], [], [], [0, 1, 2]⟩, [], [], []⟩
theorem f96 (a : List (List Int)) (z : Bool) (h : 0 < a.length) : ACall Try.prog 96 [.agg [.pay (.rows a) z]] (fun r objs => r = .int .i64 (a.getD 0 []).length ∧ objs = []) := by
 refine acall_intro (tyP_ok _) c96 2000 [.tmp 2] Try.func96 rfl (by rfl) rfl (by kernel_rfl) ?_
 unfold Try.f96
 simp -implicitDefEqProofs (maxSteps := 4000000) (disch := omega) only [push_cast, c96, Nat.reduceAdd, Nat.reduceSub, Nat.reduceMul, Nat.reduceBEq, Int.reduceToNat, Int.reduceNeg, Int.reduceLE, Int.reduceLT, Int.reduceBEq, Int.reduceBNe, Int.reduceEq, eq_self, reduceCtorEq]
 exact h
def c100 : VCfg := ⟨⟨[], [], [], [0, 1, 3]⟩, [], [], []⟩
theorem f100 (x n : Int) : ACall Try.prog 100 [.int .i64 x, .fref [.int .i64 n]] (fun r objs => r = .bool (decide (x < 0 ∨ n ≤ x)) ∧ objs = []) := by
 refine acall_intro (tyP_ok _) c100 2000 [.tmp 3] Try.func100 rfl (by rfl) rfl (by kernel_rfl) ?_
 unfold Try.f100
 simp -implicitDefEqProofs (maxSteps := 4000000) (disch := omega) only [push_cast, c100, Nat.reduceAdd, Nat.reduceSub, Nat.reduceMul, Nat.reduceBEq, Int.reduceToNat, Int.reduceNeg, Int.reduceLE, Int.reduceLT, Int.reduceBEq, Int.reduceBNe, Int.reduceEq, eq_self, reduceCtorEq]
 exact ⟨fun h => by simp [h], fun h => by simp [show ¬ x < 0 by omega]⟩
def c105 : VCfg := ⟨⟨[], [], [], [0, 1, 4, 5, 7, 8, 9, 16]⟩, [], [], []⟩
theorem f105 (l : List Int) (z : Bool) (hl : l.length ≤ 4611686018427387904) (g : FuncId) (caps : List AV) (p : Int → Bool) (hg : ∀ x, ACall Try.prog g (.int .i64 x :: caps) (fun r objs => r = .bool (p x) ∧ objs = [])) (hc : NoH caps) :
  ACall Try.prog 105 [.pay (.ints .i64 l) z, .clo g caps] (fun r objs => ∃ n : Int, (0 ≤ n ↔ ∃ x ∈ l, p x = true) ∧ r = .int .i64 n ∧ objs = []) := by
 refine acall_intro (tyP_ok _) c105 2000 [.tmp 4] Try.func105 rfl (by rfl) rfl (by kernel_rfl) ?_
 unfold Try.f105
 simp -implicitDefEqProofs (maxSteps := 4000000) (disch := omega) only [push_cast, c105, Nat.reduceAdd, Nat.reduceSub, Nat.reduceMul, Nat.reduceBEq, Int.reduceToNat, Int.reduceNeg, Int.reduceLE, Int.reduceLT, Int.reduceBEq, Int.reduceBNe, Int.reduceEq, eq_self, reduceCtorEq]
 refine awp_upto (tyP_ok _) c105 2000 [0, 1, 4, 7, 8] (l.length) (fun i => ∀ j, j < i → p (l.getD j 0) = false) (fun i => ⟨19, [(0, .pay (.ints .i64 l) z), (1, .clo g caps), (4, .int .i64 0), (7, .int .i64 l.length), (8, .int .i64 i)], []⟩) (by kernel_rfl) ?_ ?_ ?_
 ·simp -implicitDefEqProofs (maxSteps := 4000000) (disch := omega) only [push_cast, c105, hc.hs, hc.mp, Nat.reduceAdd, Nat.reduceSub, Nat.reduceMul, Nat.reduceBEq, Int.reduceToNat, Int.reduceNeg, Int.reduceLE, Int.reduceLT, Int.reduceBEq, Int.reduceBNe, Int.reduceEq, eq_self, reduceCtorEq]
 ·exact fun j hj => by omega
 intro i hi hr
 simp -implicitDefEqProofs (maxSteps := 4000000) (disch := omega) only [push_cast, c105, hc.hs, hc.mp, hc.no3, Nat.reduceAdd, Nat.reduceSub, Nat.reduceMul, Nat.reduceBEq, Int.reduceToNat, Int.reduceNeg, Int.reduceLE, Int.reduceLT, Int.reduceBEq, Int.reduceBNe, Int.reduceEq, eq_self, reduceCtorEq]
 refine ⟨fun hlt => ⟨hlt, ?_⟩, fun hge => ⟨-1, ?_, rfl⟩⟩
 ·refine callW_eq _ _ (hg _) ?_
  simp -implicitDefEqProofs (maxSteps := 4000000) (disch := omega) only [push_cast, c105, hc.hs, hc.mp, hc.no3, Nat.reduceAdd, Nat.reduceSub, Nat.reduceMul, Nat.reduceBEq, Int.reduceToNat, Int.reduceNeg, Int.reduceLE, Int.reduceLT, Int.reduceBEq, Int.reduceBNe, Int.reduceEq, eq_self, reduceCtorEq]
  refine ⟨fun h => ⟨i, ⟨fun _ => ⟨_, getD_mem hlt, h⟩, fun _ => by omega⟩, rfl⟩, fun h => ⟨hlt, fun j hj => ?_⟩⟩
  rcases Nat.lt_succ_iff_lt_or_eq.1 hj with hj | rfl
  ·exact hr j hj
  ·exact h
 ·refine ⟨fun h => by omega, fun ⟨x, hx, h⟩ => ?_⟩
  obtain ⟨j, hj, rfl⟩ := List.getElem_of_mem hx
  have := hr j (by omega)
  have e : l.getD j 0 = l[j] := by simp [hj]
  rw [e, h] at this
  cases this
def c80 : VCfg := ⟨⟨[], [], [], [0, 1, 4]⟩, [], [], []⟩
theorem f80 (l : List Int) (z : Bool) (hl : l.length ≤ 4611686018427387904) (g : FuncId) (caps : List AV) (p : Int → Bool) (hg : ∀ x, ACall Try.prog g (.int .i64 x :: caps) (fun r objs => r = .bool (p x) ∧ objs = [])) (hc : NoH caps) :
  ACall Try.prog 80 [.pay (.ints .i64 l) z, .clo g caps] (fun r objs => r = .bool (l.any p) ∧ objs = []) := by
 refine acall_intro (tyP_ok _) c80 2000 [.tmp 4] Try.func80 rfl (by rfl) rfl (by kernel_rfl) ?_
 unfold Try.f80
 simp -implicitDefEqProofs (maxSteps := 4000000) (disch := omega) only [push_cast, c80, hc.hs, hc.mp, hc.no2, hc.no3, Nat.reduceAdd, Nat.reduceSub, Nat.reduceMul, Nat.reduceBEq, Int.reduceToNat, Int.reduceNeg, Int.reduceLE, Int.reduceLT, Int.reduceBEq, Int.reduceBNe, Int.reduceEq, eq_self, reduceCtorEq]
 refine callW_rel (f105 l z hl g caps p hg hc) ?_
 rintro R O ⟨n, hn, rfl, rfl⟩
 simp -implicitDefEqProofs (maxSteps := 4000000) (disch := omega) only [push_cast, c80, hc.hs, hc.mp, hc.no2, hc.no3, Nat.reduceAdd, Nat.reduceSub, Nat.reduceMul, Nat.reduceBEq, Int.reduceToNat, Int.reduceNeg, Int.reduceLE, Int.reduceLT, Int.reduceBEq, Int.reduceBNe, Int.reduceEq, eq_self, reduceCtorEq]
 rw [Bool.eq_iff_iff, decide_eq_true_eq, hn, List.any_eq_true]
def c68 : VCfg := ⟨⟨[], [], [], [0, 1, 3, 4]⟩, [], [], []⟩
theorem f68 (l : List Int) (z : Bool) (n : Int) (hl : l.length ≤ 4611686018427387904) :
  ACall Try.prog 68 [.pay (.ints .i64 l) z, .int .i64 n] (fun r objs => r = .bool (belowB l n) ∧ objs = []) := by
 refine acall_intro (tyP_ok _) c68 2000 [.tmp 4] Try.func68 rfl (by rfl) rfl (by kernel_rfl) ?_
 unfold Try.f68
 simp -implicitDefEqProofs (maxSteps := 4000000) (disch := omega) only [push_cast, c68, Nat.reduceAdd, Nat.reduceSub, Nat.reduceMul, Nat.reduceBEq, Int.reduceToNat, Int.reduceNeg, Int.reduceLE, Int.reduceLT, Int.reduceBEq, Int.reduceBNe, Int.reduceEq, eq_self, reduceCtorEq]
 refine callW_eq _ _ (f80 l z hl 100 [.fref [.int .i64 n]] (fun x => decide (x < 0 ∨ n ≤ x)) (fun x => f100 x n) (NoH.of rfl rfl)) ?_
 simp -implicitDefEqProofs (maxSteps := 4000000) (disch := omega) only [push_cast, c68, Nat.reduceAdd, Nat.reduceSub, Nat.reduceMul, Nat.reduceBEq, Int.reduceToNat, Int.reduceNeg, Int.reduceLE, Int.reduceLT, Int.reduceBEq, Int.reduceBNe, Int.reduceEq, eq_self, reduceCtorEq]
 rw [Bool.eq_iff_iff]
 simp [belowB, List.all_eq_true, List.any_eq_false]
def c99 : VCfg := ⟨⟨[], [], [], [0, 1, 4, 5, 7, 8, 9, 16]⟩, [], [], []⟩
theorem f99 (l : List (List Int)) (z : Bool) (hl : l.length ≤ 4611686018427387904) (g : FuncId) (caps : List AV) (p : List Int → Bool) (hg : ∀ x, x ∈ l → ACall Try.prog g (.pay (.ints .i64 x) false :: caps) (fun r objs => r = .bool (p x) ∧ objs = [])) (hc : NoH caps) :
  ACall Try.prog 99 [.pay (.rows l) z, .clo g caps] (fun r objs => ∃ n : Int, (0 ≤ n ↔ ∃ x ∈ l, p x = true) ∧ r = .int .i64 n ∧ objs = []) := by
 refine acall_intro (tyP_ok _) c99 2000 [.tmp 4] Try.func99 rfl (by rfl) rfl (by kernel_rfl) ?_
 unfold Try.f99
 simp -implicitDefEqProofs (maxSteps := 4000000) (disch := omega) only [push_cast, c99, Nat.reduceAdd, Nat.reduceSub, Nat.reduceMul, Nat.reduceBEq, Int.reduceToNat, Int.reduceNeg, Int.reduceLE, Int.reduceLT, Int.reduceBEq, Int.reduceBNe, Int.reduceEq, eq_self, reduceCtorEq]
 refine awp_upto (tyP_ok _) c99 2000 [0, 1, 4, 7, 8] (l.length) (fun i => ∀ j, j < i → p (l.getD j []) = false) (fun i => ⟨19, [(0, .pay (.rows l) z), (1, .clo g caps), (4, .int .i64 0), (7, .int .i64 l.length), (8, .int .i64 i)], []⟩) (by kernel_rfl) ?_ ?_ ?_
 ·simp -implicitDefEqProofs (maxSteps := 4000000) (disch := omega) only [push_cast, c99, hc.hs, hc.mp, Nat.reduceAdd, Nat.reduceSub, Nat.reduceMul, Nat.reduceBEq, Int.reduceToNat, Int.reduceNeg, Int.reduceLE, Int.reduceLT, Int.reduceBEq, Int.reduceBNe, Int.reduceEq, eq_self, reduceCtorEq]
 ·exact fun j hj => by omega
 intro i hi hr
 simp -implicitDefEqProofs (maxSteps := 4000000) (disch := omega) only [push_cast, c99, hc.hs, hc.mp, hc.no3, Nat.reduceAdd, Nat.reduceSub, Nat.reduceMul, Nat.reduceBEq, Int.reduceToNat, Int.reduceNeg, Int.reduceLE, Int.reduceLT, Int.reduceBEq, Int.reduceBNe, Int.reduceEq, eq_self, reduceCtorEq]
 refine ⟨fun hlt => ⟨hlt, ?_⟩, fun hge => ⟨-1, ?_, rfl⟩⟩
 ·refine callW_eq _ _ (hg _ (getD_mem' hlt)) ?_
  simp -implicitDefEqProofs (maxSteps := 4000000) (disch := omega) only [push_cast, c99, hc.hs, hc.mp, hc.no3, Nat.reduceAdd, Nat.reduceSub, Nat.reduceMul, Nat.reduceBEq, Int.reduceToNat, Int.reduceNeg, Int.reduceLE, Int.reduceLT, Int.reduceBEq, Int.reduceBNe, Int.reduceEq, eq_self, reduceCtorEq]
  refine ⟨fun h => ⟨i, ⟨fun _ => ⟨_, getD_mem' hlt, h⟩, fun _ => by omega⟩, rfl⟩, fun h => ⟨hlt, fun j hj => ?_⟩⟩
  rcases Nat.lt_succ_iff_lt_or_eq.1 hj with hj | rfl
  ·exact hr j hj
  ·exact h
 ·refine ⟨fun h => by omega, fun ⟨x, hx, h⟩ => ?_⟩
  obtain ⟨j, hj, rfl⟩ := List.getElem_of_mem hx
  have := hr j (by omega)
  have e : l.getD j [] = l[j] := by simp [hj]
  rw [e, h] at this
  cases this
def c66 : VCfg := ⟨⟨[], [], [], [0, 1, 4]⟩, [], [], []⟩
theorem f66 (l : List (List Int)) (z : Bool) (hl : l.length ≤ 4611686018427387904) (g : FuncId) (caps : List AV) (p : List Int → Bool) (hg : ∀ x, x ∈ l → ACall Try.prog g (.pay (.ints .i64 x) false :: caps) (fun r objs => r = .bool (p x) ∧ objs = [])) (hc : NoH caps) :
  ACall Try.prog 66 [.pay (.rows l) z, .clo g caps] (fun r objs => r = .bool (l.any p) ∧ objs = []) := by
 refine acall_intro (tyP_ok _) c66 2000 [.tmp 4] Try.func66 rfl (by rfl) rfl (by kernel_rfl) ?_
 unfold Try.f66
 simp -implicitDefEqProofs (maxSteps := 4000000) (disch := omega) only [push_cast, c66, hc.hs, hc.mp, hc.no2, hc.no3, Nat.reduceAdd, Nat.reduceSub, Nat.reduceMul, Nat.reduceBEq, Int.reduceToNat, Int.reduceNeg, Int.reduceLE, Int.reduceLT, Int.reduceBEq, Int.reduceBNe, Int.reduceEq, eq_self, reduceCtorEq]
 refine callW_rel (f99 l z hl g caps p hg hc) ?_
 rintro R O ⟨n, hn, rfl, rfl⟩
 simp -implicitDefEqProofs (maxSteps := 4000000) (disch := omega) only [push_cast, c66, hc.hs, hc.mp, hc.no2, hc.no3, Nat.reduceAdd, Nat.reduceSub, Nat.reduceMul, Nat.reduceBEq, Int.reduceToNat, Int.reduceNeg, Int.reduceLE, Int.reduceLT, Int.reduceBEq, Int.reduceBNe, Int.reduceEq, eq_self, reduceCtorEq]
 rw [Bool.eq_iff_iff, decide_eq_true_eq, hn, List.any_eq_true]
def c67 : VCfg := ⟨⟨[], [], [], [0, 1, 2, 4]⟩, [], [], []⟩
theorem f67 (row : List Int) (z z' : Bool) (k : Int) (a : List (List Int)) (hl : row.length ≤ 4611686018427387904) :
  ACall Try.prog 67 [.pay (.ints .i64 row) z, .fref [.int .i64 k], .fref [.pay (.rows a) z']] (fun r objs => r = .bool (!(decide ((row.length : Int) = k) && belowB row a.length)) ∧ objs = []) := by
 refine acall_intro (tyP_ok _) c67 2000 [.tmp 4] Try.func67 rfl (by rfl) rfl (by kernel_rfl) ?_
 unfold Try.f67
 simp -implicitDefEqProofs (maxSteps := 4000000) (disch := omega) only [push_cast, c67, Nat.reduceAdd, Nat.reduceSub, Nat.reduceMul, Nat.reduceBEq, Int.reduceToNat, Int.reduceNeg, Int.reduceLE, Int.reduceLT, Int.reduceBEq, Int.reduceBNe, Int.reduceEq, eq_self, reduceCtorEq]
 refine ⟨fun h => by simp [h], fun h => ?_⟩
 refine callW_eq _ _ (f68 row z a.length hl) ?_
 simp -implicitDefEqProofs (maxSteps := 4000000) (disch := omega) only [push_cast, c67, Nat.reduceAdd, Nat.reduceSub, Nat.reduceMul, Nat.reduceBEq, Int.reduceToNat, Int.reduceNeg, Int.reduceLE, Int.reduceLT, Int.reduceBEq, Int.reduceBNe, Int.reduceEq, eq_self, reduceCtorEq]
 simp [h]
def c30 : VCfg := ⟨⟨[], [], [], [0, 1, 2, 3, 13]⟩, [], [], []⟩
theorem f30 (a : List (List Int)) (z : Bool) (hl : a.length ≤ 4611686018427387904) (hl2 : ∀ r ∈ a, r.length ≤ 4611686018427387904) :
  ACall Try.prog 30 [.agg [.pay (.rows a) z]] (fun r objs => r = .bool (vldB a) ∧ objs = []) := by
 refine acall_intro (tyP_ok _) c30 2000 [.tmp 2] Try.func30 rfl (by rfl) rfl (by kernel_rfl) ?_
 unfold Try.f30
 simp -implicitDefEqProofs (maxSteps := 4000000) (disch := omega) only [push_cast, c30, Nat.reduceAdd, Nat.reduceSub, Nat.reduceMul, Nat.reduceBEq, Int.reduceToNat, Int.reduceNeg, Int.reduceLE, Int.reduceLT, Int.reduceBEq, Int.reduceBNe, Int.reduceEq, eq_self, reduceCtorEq]
 refine ⟨fun h => vldB_false fun hv => by have := hv.n1; omega, fun h => ⟨fun h2 => vldB_false fun hv => by have := hv.n2; omega, fun h2 => ⟨by omega, fun h3 => ⟨fun h4 => ?_, fun h4 => vldB_false fun hv => by have := hv.k2; omega⟩, fun h3 => vldB_false fun hv => by have := hv.k1; omega⟩⟩⟩
 refine callW_eq _ _ (f66 a z hl 67 _ (fun row => !(decide ((row.length : Int) = (a.getD 0 []).length) && belowB row a.length)) (fun x hx => f67 x false z _ a (hl2 x hx)) (NoH.of rfl rfl)) ?_
 simp -implicitDefEqProofs (maxSteps := 4000000) (disch := omega) only [push_cast, c30, Nat.reduceAdd, Nat.reduceSub, Nat.reduceMul, Nat.reduceBEq, Int.reduceToNat, Int.reduceNeg, Int.reduceLE, Int.reduceLT, Int.reduceBEq, Int.reduceBNe, Int.reduceEq, eq_self, reduceCtorEq]
 rw [Bool.eq_iff_iff, vldB_iff]
 simp only [Bool.not_eq_true', List.any_eq_false, Bool.not_eq_true', Bool.not_eq_false, Bool.not_eq_true]
 constructor
 ·intro h5
  refine ⟨by omega, by omega, by omega, by omega, fun r hr => ?_⟩
  have := h5 r hr
  simp only [Bool.not_eq_false', Bool.and_eq_true, decide_eq_true_eq, belowB_iff] at this
  exact ⟨by omega, this.2⟩
 ·intro hv r hr
  have := hv.row r hr
  simp only [Bool.not_eq_false', Bool.and_eq_true, decide_eq_true_eq, belowB_iff]
  exact ⟨by omega, this.2⟩
def c64 : VCfg := ⟨⟨[], [], [], [0, 1, 2, 4]⟩, [], [], []⟩
theorem f64 (a : List (List Int)) (z z' : Bool) (w : List Int) (ha : 0 < a.length) (hw : w.length ≤ 4611686018427387904) :
  ACall Try.prog 64 [.agg [.pay (.rows a) z], .pay (.ints .i64 w) z'] (fun r objs => r = .bool (wordB (a.getD 0 []).length w) ∧ objs = []) := by
 refine acall_intro (tyP_ok _) c64 2000 [.tmp 4] Try.func64 rfl (by rfl) rfl (by kernel_rfl) ?_
 unfold Try.f64
 simp -implicitDefEqProofs (maxSteps := 4000000) (disch := omega) only [push_cast, c64, Nat.reduceAdd, Nat.reduceSub, Nat.reduceMul, Nat.reduceBEq, Int.reduceToNat, Int.reduceNeg, Int.reduceLE, Int.reduceLT, Int.reduceBEq, Int.reduceBNe, Int.reduceEq, eq_self, reduceCtorEq]
 refine ⟨fun h => ?_, fun h => by simp [wordB, show ¬ w.length ≤ 40000 by omega]⟩
 refine callW_eq _ _ (f96 a z ha) ?_
 simp -implicitDefEqProofs (maxSteps := 4000000) (disch := omega) only [push_cast, c64, Nat.reduceAdd, Nat.reduceSub, Nat.reduceMul, Nat.reduceBEq, Int.reduceToNat, Int.reduceNeg, Int.reduceLE, Int.reduceLT, Int.reduceBEq, Int.reduceBNe, Int.reduceEq, eq_self, reduceCtorEq]
 refine callW_eq _ _ (f68 w z' _ hw) ?_
 simp -implicitDefEqProofs (maxSteps := 4000000) (disch := omega) only [push_cast, c64, Nat.reduceAdd, Nat.reduceSub, Nat.reduceMul, Nat.reduceBEq, Int.reduceToNat, Int.reduceNeg, Int.reduceLE, Int.reduceLT, Int.reduceBEq, Int.reduceBNe, Int.reduceEq, eq_self, reduceCtorEq]
 simp [wordB, show w.length ≤ 40000 by omega]
def c62 : VCfg := ⟨⟨[], [], [], [0, 1, 2, 4]⟩, [], [], []⟩
theorem f62 (a : List (List Int)) (z : Bool) (s : Int) :
  ACall Try.prog 62 [.agg [.pay (.rows a) z], .int .i64 s] (fun r objs => r = .bool (decide (0 ≤ s ∧ s < a.length)) ∧ objs = []) := by
 refine acall_intro (tyP_ok _) c62 2000 [.tmp 4] Try.func62 rfl (by rfl) rfl (by kernel_rfl) ?_
 unfold Try.f62
 simp -implicitDefEqProofs (maxSteps := 4000000) (disch := omega) only [push_cast, c62, Nat.reduceAdd, Nat.reduceSub, Nat.reduceMul, Nat.reduceBEq, Int.reduceToNat, Int.reduceNeg, Int.reduceLE, Int.reduceLT, Int.reduceBEq, Int.reduceBNe, Int.reduceEq, eq_self, reduceCtorEq]
 exact ⟨fun h => by simp [h], fun h => by simp [show ¬ 0 ≤ s by omega]⟩
end Go.AM
end

section
namespace Go.AM
open Go Go.Proofs
def c63 : VCfg := ⟨⟨[], [], [], [0, 1, 2]⟩, [], [], []⟩
theorem f63 (N O : List (List Int)) (z z' : Bool) : ACall Try.prog 63 [.agg [.pay (.rows (N)) (z), .pay (.rows (O)) (z')]] (fun r objs => r = .agg [.pay (.rows N) z] ∧ objs = []) := by
 refine acall_intro (tyP_ok _) c63 2000 [.cell 2 43] Try.func63 rfl (by rfl) rfl (by kernel_rfl) ?_
 unfold Try.f63
 simp -implicitDefEqProofs (maxSteps := 4000000) (disch := omega) only [push_cast, c63, Nat.reduceAdd, Nat.reduceSub, Nat.reduceMul, Nat.reduceBEq, Int.reduceToNat, Int.reduceNeg, Int.reduceLE, Int.reduceLT, Int.reduceBEq, Int.reduceBNe, Int.reduceEq, eq_self, reduceCtorEq]
def c81 : VCfg := ⟨⟨[], [], [], [0, 2]⟩, [], [], []⟩
theorem f81 (x : Int) : ACall Try.prog 81 [.int .i64 x] (fun r objs => r = .bool (decide (x < 0 ∨ 16 ≤ x)) ∧ objs = []) := by
 refine acall_intro (tyP_ok _) c81 2000 [.tmp 2] Try.func81 rfl (by rfl) rfl (by kernel_rfl) ?_
 unfold Try.f81
 simp -implicitDefEqProofs (maxSteps := 4000000) (disch := omega) only [push_cast, c81, Nat.reduceAdd, Nat.reduceSub, Nat.reduceMul, Nat.reduceBEq, Int.reduceToNat, Int.reduceNeg, Int.reduceLE, Int.reduceLT, Int.reduceBEq, Int.reduceBNe, Int.reduceEq, eq_self, reduceCtorEq]
 exact ⟨fun h => by simp [h], fun h => by simp [show ¬ x < 0 by omega]⟩
def c79 : VCfg := ⟨⟨[], [], [], [0, 1, 3]⟩, [], [], []⟩
theorem f79 (row : List Int) (z : Bool) (N O : List (List Int)) (z1 z2 : Bool) (h0 : 0 < N.length) (hl : row.length ≤ 4611686018427387904) : ACall Try.prog 79 [.pay (.ints .i64 row) z, .fref [.pay (.rows N) z1, .pay (.rows O) z2]] (fun r objs => r = .bool (!(decide (row.length = (N.getD 0 []).length) && belowB row 16)) ∧ objs = []) := by
 refine acall_intro (tyP_ok _) c79 2000 [.tmp 3] Try.func79 rfl (by rfl) rfl (by kernel_rfl) ?_
 unfold Try.f79
 simp -implicitDefEqProofs (maxSteps := 4000000) (disch := omega) only [push_cast, c79, Nat.reduceAdd, Nat.reduceSub, Nat.reduceMul, Nat.reduceBEq, Int.reduceToNat, Int.reduceNeg, Int.reduceLE, Int.reduceLT, Int.reduceBEq, Int.reduceBNe, Int.reduceEq, eq_self, reduceCtorEq]
 refine ⟨by omega, fun h => by rw [decide_eq_false h]; rfl, fun h => ?_⟩
 refine callW_eq _ _ (f80 row z hl 81 [] (fun x => decide (x < 0 ∨ 16 ≤ x)) (fun x => f81 x) (NoH.of rfl rfl)) ?_
 simp -implicitDefEqProofs (maxSteps := 4000000) (disch := omega) only [push_cast, c79, Nat.reduceAdd, Nat.reduceSub, Nat.reduceMul, Nat.reduceBEq, Int.reduceToNat, Int.reduceNeg, Int.reduceLE, Int.reduceLT, Int.reduceBEq, Int.reduceBNe, Int.reduceEq, eq_self, reduceCtorEq]
 rw [decide_eq_true h, Bool.true_and, belowB, Bool.eq_iff_iff]
 simp [List.any_eq_true, List.all_eq_true, Bool.not_eq_true']
 exact ⟨fun ⟨x, h1, h2⟩ => ⟨x, h1, fun h => by omega⟩, fun ⟨x, h1, h2⟩ => ⟨x, h1, by omega⟩⟩
def c50 : VCfg := ⟨⟨[], [], [], [0, 1, 2, 15]⟩, [], [], []⟩
theorem f50 (N O : List (List Int)) (z z' : Bool) (hl : N.length ≤ 4611686018427387904) (hl2 : ∀ r ∈ N, r.length ≤ 4611686018427387904) (ho : O.length ≤ 4611686018427387904) (ho2 : ∀ r ∈ O, r.length ≤ 4611686018427387904) :
  ACall Try.prog 50 [.agg [.pay (.rows (N)) (z), .pay (.rows (O)) (z')]] (fun r objs => r = .bool (vmB N O) ∧ objs = []) := by
 refine acall_intro (tyP_ok _) c50 2000 [.tmp 2] Try.func50 rfl (by rfl) rfl (by kernel_rfl) ?_
 unfold Try.f50
 simp -implicitDefEqProofs (maxSteps := 4000000) (disch := omega) only [push_cast, c50, Nat.reduceAdd, Nat.reduceSub, Nat.reduceMul, Nat.reduceBEq, Int.reduceToNat, Int.reduceNeg, Int.reduceLE, Int.reduceLT, Int.reduceBEq, Int.reduceBNe, Int.reduceEq, eq_self, reduceCtorEq]
 refine callW_eq _ _ (f63 N O z z') ?_
 simp -implicitDefEqProofs (maxSteps := 4000000) (disch := omega) only [push_cast, c50, Nat.reduceAdd, Nat.reduceSub, Nat.reduceMul, Nat.reduceBEq, Int.reduceToNat, Int.reduceNeg, Int.reduceLE, Int.reduceLT, Int.reduceBEq, Int.reduceBNe, Int.reduceEq, eq_self, reduceCtorEq]
 refine callW_eq _ _ (f30 N z hl hl2) ?_
 simp -implicitDefEqProofs (maxSteps := 4000000) (disch := omega) only [push_cast, c50, Nat.reduceAdd, Nat.reduceSub, Nat.reduceMul, Nat.reduceBEq, Int.reduceToNat, Int.reduceNeg, Int.reduceLE, Int.reduceLT, Int.reduceBEq, Int.reduceBNe, Int.reduceEq, eq_self, reduceCtorEq]
 refine ⟨fun hv => vmB_false fun h => ?_, fun hv => ⟨fun hne => vmB_false fun h => hne h.ol, fun heq => ?_⟩⟩
 ·rw [vldB_iff.2 h.v] at hv; cases hv
 have hV := vldB_iff.1 hv
 have hn := hV.n1
 refine callW_eq _ _ (f66 O z' ho 79 _ (fun row => !(decide (row.length = (N.getD 0 []).length) && belowB row 16)) (fun x hx => f79 x false N O z z' (by omega) (ho2 x hx)) (NoH.of rfl rfl)) ?_
 simp -implicitDefEqProofs (maxSteps := 4000000) (disch := omega) only [push_cast, c50, Nat.reduceAdd, Nat.reduceSub, Nat.reduceMul, Nat.reduceBEq, Int.reduceToNat, Int.reduceNeg, Int.reduceLE, Int.reduceLT, Int.reduceBEq, Int.reduceBNe, Int.reduceEq, eq_self, reduceCtorEq]
 rw [Bool.eq_iff_iff, vmB_iff]
 simp only [Bool.not_eq_true', List.any_eq_false, Bool.not_eq_true', Bool.not_eq_false, Bool.not_eq_true]
 constructor
 ·intro h5
  refine ⟨hV, heq, fun r hr => ?_⟩
  have := h5 r hr
  simp only [Bool.not_eq_false', Bool.and_eq_true, decide_eq_true_eq, belowB_iff] at this
  exact this
 ·intro hm r hr
  have := hm.orow r hr
  simp only [Bool.not_eq_false', Bool.and_eq_true, decide_eq_true_eq, belowB_iff]
  exact this
def c48 : VCfg := ⟨⟨[], [], [], [0, 1, 2, 3, 4, 5, 14, 17, 49, 57, 80]⟩, [(7, (.op 0 .loose (.op 1 .loose (.op 2 .loose (.op 3 .loose (.op 4 .loose (.op 5 .loose (.op 6 .loose (.op 7 .loose (.op 8 .loose (.op 9 .loose (.op 10 .loose (.op 11 .loose (.op 12 .loose (.op 13 .loose (.op 14 .loose (.op 15 .loose (.op 16 .loose (.op 17 .loose (.op 18 .loose (.op 19 .loose (.op 20 .loose (.op 21 .loose (.op 22 .loose (.op 23 .loose (.op 24 .loose (.op 25 .loose (.op 26 .loose (.op 27 .loose (.op 28 .loose (.op 29 .loose .nil)))))))))))))))))))))))))))))))], [], []⟩
theorem f48 (a : List (List Int)) (z : Bool) (hl : a.length ≤ 4611686018427387904) (hl2 : ∀ r ∈ a, r.length ≤ 4611686018427387904) :
  ACall Try.prog 48 [.agg [.pay (.rows a) z]] (fun r objs => r = .bool (vldB a) ∧ objs = []) := by
 refine acall_intro (tyP_ok _) c48 2000 [.tmp 2] Try.func48 rfl (by rfl) rfl (by kernel_rfl) ?_
 unfold Try.f48
 simp -implicitDefEqProofs (maxSteps := 4000000) (disch := omega) only [push_cast, c48, Nat.reduceAdd, Nat.reduceSub, Nat.reduceMul, Nat.reduceBEq, Int.reduceToNat, Int.reduceNeg, Int.reduceLE, Int.reduceLT, Int.reduceBEq, Int.reduceBNe, Int.reduceEq, eq_self, reduceCtorEq]
 refine ⟨fun h => vldB_false fun hv => by have := hv.n1; omega, fun h => ⟨fun h2 => vldB_false fun hv => by have := hv.n2; omega, fun h2 => ?_⟩⟩
 refine awp_upto (tyP_ok _) c48 2000 [1, 2, 3, 4] (a.length) (fun i => ∀ j, j < i → (1 ≤ (a.getD j []).length ∧ (a.getD j []).length ≤ 6) ∧ (a.getD j []).length = (a.getD 0 []).length ∧ belowB (a.getD j []) a.length = true) (fun i => ⟨81, [(1, .fref [.pay (.rows a) z]), (2, .bool false), (3, .int .i64 a.length), (4, .int .i64 i)], []⟩) (by kernel_rfl) ?_ ?_ ?_
 ·simp -implicitDefEqProofs (maxSteps := 4000000) (disch := omega) only [push_cast, c48, Nat.reduceAdd, Nat.reduceSub, Nat.reduceMul, Nat.reduceBEq, Int.reduceToNat, Int.reduceNeg, Int.reduceLE, Int.reduceLT, Int.reduceBEq, Int.reduceBNe, Int.reduceEq, eq_self, reduceCtorEq]
 ·exact fun j hj => by omega
 intro i hi hr
 simp -implicitDefEqProofs (maxSteps := 4000000) (disch := omega) only [push_cast, c48, Nat.reduceAdd, Nat.reduceSub, Nat.reduceMul, Nat.reduceBEq, Int.reduceToNat, Int.reduceNeg, Int.reduceLE, Int.reduceLT, Int.reduceBEq, Int.reduceBNe, Int.reduceEq, eq_self, reduceCtorEq]
 have bad : ∀ {Q : Prop}, i < a.length → (Vld a (a.getD 0 []).length → Q → False) → Q → false = vldB a := fun _ h hq => vldB_false fun hv => h hv hq
 refine ⟨fun hlt => ⟨hlt, bad hlt fun hv h => by have := (hv.row _ (getD_mem' hlt)).1; have := hv.k1; omega, fun h1 => ⟨hlt, bad hlt fun hv h => by have := (hv.row _ (getD_mem' hlt)).1; have := hv.k2; omega, fun h6 => ⟨hlt, by omega, bad hlt fun hv h => h (hv.row _ (getD_mem' hlt)).1, fun he => ?_⟩⟩⟩, fun hge => ?_⟩
 ·refine awp_upto (tyP_ok _) c48 2000 [1, 2, 3, 4, 5] ((a.getD i []).length) (fun k => ∀ j, j < k → 0 ≤ (a.getD i []).getD j 0 ∧ (a.getD i []).getD j 0 < a.length) (fun k => ⟨81, [(1, .fref [.pay (.rows a) z]), (2, .bool false), (3, .int .i64 a.length), (4, .int .i64 i), (5, .int .i64 k)], []⟩) (by kernel_rfl) ?_ ?_ ?_
  ·simp -implicitDefEqProofs (maxSteps := 4000000) (disch := omega) only [push_cast, c48, Nat.reduceAdd, Nat.reduceSub, Nat.reduceMul, Nat.reduceBEq, Int.reduceToNat, Int.reduceNeg, Int.reduceLE, Int.reduceLT, Int.reduceBEq, Int.reduceBNe, Int.reduceEq, eq_self, reduceCtorEq]
  ·exact fun j hj => by omega
  intro k hk hrk
  have hil := hl2 _ (getD_mem' hlt)
  simp -implicitDefEqProofs (maxSteps := 4000000) (disch := omega) only [push_cast, c48, Nat.reduceAdd, Nat.reduceSub, Nat.reduceMul, Nat.reduceBEq, Int.reduceToNat, Int.reduceNeg, Int.reduceLE, Int.reduceLT, Int.reduceBEq, Int.reduceBNe, Int.reduceEq, eq_self, reduceCtorEq]
  have bad2 : k < (a.getD i []).length → (Q : Prop) → ((0 ≤ (a.getD i []).getD k 0 ∧ (a.getD i []).getD k 0 < a.length) → Q → False) → Q → false = vldB a := fun hk Q h hq => vldB_false fun hv => h ((hv.row _ (getD_mem' hlt)).2 _ (getD_mem hk)) hq
  refine ⟨hlt, fun hkl => ⟨hlt, hkl, bad2 hkl _ fun h1 h2 => by omega, fun h0 => ⟨hlt, hkl, bad2 hkl _ fun h1 h2 => by omega, fun h3 => ⟨hkl, upto_succ hrk ⟨h0, h3⟩⟩⟩⟩, fun hge => ⟨hlt, upto_succ hr ⟨⟨by omega, by omega⟩, he, belowB_iff.2 (all_of_getD (p := fun x => 0 ≤ x ∧ x < a.length) fun j hj => hrk j (by omega))⟩⟩⟩
 ·have h0 := hr 0 (by omega)
  exact vldB_true (by omega) (by omega) (by omega) (by omega) fun j hj => (hr j (by omega)).2
def c16 : VCfg := ⟨⟨[], [], [], [0, 1, 2, 3, 4, 18, 23, 38, 46, 68]⟩, [(6, (.op 0 .loose (.op 1 .loose (.op 2 .loose (.op 3 .loose (.op 4 .loose (.op 5 .loose (.op 6 .loose (.op 7 .loose (.op 8 .loose (.op 9 .loose (.op 10 .loose (.op 11 .loose (.op 12 .loose .nil))))))))))))))], [], []⟩
theorem f16 (N O : List (List Int)) (z z' : Bool) (hl : N.length ≤ 4611686018427387904) (hl2 : ∀ r ∈ N, r.length ≤ 4611686018427387904) (ho : O.length ≤ 4611686018427387904) (ho2 : ∀ r ∈ O, r.length ≤ 4611686018427387904) :
  ACall Try.prog 16 [.agg [.pay (.rows (N)) (z), .pay (.rows (O)) (z')]] (fun r objs => r = .bool (vmB N O) ∧ objs = []) := by
 refine acall_intro (tyP_ok _) c16 2000 [.tmp 2] Try.func16 rfl (by rfl) rfl (by kernel_rfl) ?_
 unfold Try.f16
 simp -implicitDefEqProofs (maxSteps := 4000000) (disch := omega) only [push_cast, c16, Nat.reduceAdd, Nat.reduceSub, Nat.reduceMul, Nat.reduceBEq, Int.reduceToNat, Int.reduceNeg, Int.reduceLE, Int.reduceLT, Int.reduceBEq, Int.reduceBNe, Int.reduceEq, eq_self, reduceCtorEq]
 refine callW_eq _ _ (f48 N z hl hl2) ?_
 simp -implicitDefEqProofs (maxSteps := 4000000) (disch := omega) only [push_cast, c16, Nat.reduceAdd, Nat.reduceSub, Nat.reduceMul, Nat.reduceBEq, Int.reduceToNat, Int.reduceNeg, Int.reduceLE, Int.reduceLT, Int.reduceBEq, Int.reduceBNe, Int.reduceEq, eq_self, reduceCtorEq]
 refine ⟨fun hv => vmB_false fun h => ?_, fun hv => ⟨fun hne => vmB_false fun h => hne h.ol, fun heq => ?_⟩⟩
 ·rw [vldB_iff.2 h.v] at hv; cases hv
 have hV := vldB_iff.1 hv
 have hn := hV.n1
 refine awp_upto (tyP_ok _) c16 2000 [1, 2, 3] (O.length) (fun i => ∀ j, j < i → (O.getD j []).length = (N.getD 0 []).length ∧ ∀ x ∈ O.getD j [], 0 ≤ x ∧ x < 16) (fun i => ⟨69, [(1, .fref [.pay (.rows N) z, .pay (.rows O) z']), (2, .bool false), (3, .int .i64 i)], []⟩) (by kernel_rfl) ?_ ?_ ?_
 ·simp -implicitDefEqProofs (maxSteps := 4000000) (disch := omega) only [push_cast, c16, Nat.reduceAdd, Nat.reduceSub, Nat.reduceMul, Nat.reduceBEq, Int.reduceToNat, Int.reduceNeg, Int.reduceLE, Int.reduceLT, Int.reduceBEq, Int.reduceBNe, Int.reduceEq, eq_self, reduceCtorEq]
 ·exact fun j hj => by omega
 intro i hi hr
 simp -implicitDefEqProofs (maxSteps := 4000000) (disch := omega) only [push_cast, c16, Nat.reduceAdd, Nat.reduceSub, Nat.reduceMul, Nat.reduceBEq, Int.reduceToNat, Int.reduceNeg, Int.reduceLE, Int.reduceLT, Int.reduceBEq, Int.reduceBNe, Int.reduceEq, eq_self, reduceCtorEq]
 refine ⟨fun hlt => ⟨hlt, by omega, ?_⟩, fun hge => ?_⟩
 ·have hNi := (hV.row _ (getD_mem' (show i < N.length by omega))).1
  refine ⟨fun hne => vmB_false fun h => hne ?_, fun he => ?_⟩
  ·rw [hNi]; exact (h.orow _ (getD_mem' hlt)).1
  refine awp_upto (tyP_ok _) c16 2000 [1, 2, 3, 4] ((O.getD i []).length) (fun k => ∀ j, j < k → 0 ≤ (O.getD i []).getD j 0 ∧ (O.getD i []).getD j 0 < 16) (fun k => ⟨69, [(1, .fref [.pay (.rows N) z, .pay (.rows O) z']), (2, .bool false), (3, .int .i64 i), (4, .int .i64 k)], []⟩) (by kernel_rfl) ?_ ?_ ?_
  ·simp -implicitDefEqProofs (maxSteps := 4000000) (disch := omega) only [push_cast, c16, Nat.reduceAdd, Nat.reduceSub, Nat.reduceMul, Nat.reduceBEq, Int.reduceToNat, Int.reduceNeg, Int.reduceLE, Int.reduceLT, Int.reduceBEq, Int.reduceBNe, Int.reduceEq, eq_self, reduceCtorEq]
  ·exact fun j hj => by omega
  intro k hk hrk
  have hil := ho2 _ (getD_mem' hlt)
  simp -implicitDefEqProofs (maxSteps := 4000000) (disch := omega) only [push_cast, c16, Nat.reduceAdd, Nat.reduceSub, Nat.reduceMul, Nat.reduceBEq, Int.reduceToNat, Int.reduceNeg, Int.reduceLE, Int.reduceLT, Int.reduceBEq, Int.reduceBNe, Int.reduceEq, eq_self, reduceCtorEq]
  have bad2 : k < (O.getD i []).length → (Q : Prop) → ((0 ≤ (O.getD i []).getD k 0 ∧ (O.getD i []).getD k 0 < 16) → Q → False) → Q → false = vmB N O := fun hk Q h hq => vmB_false fun hv => h ((hv.orow _ (getD_mem' hlt)).2 _ (getD_mem hk)) hq
  refine ⟨hlt, fun hkl => ⟨hlt, hkl, bad2 hkl _ fun h1 h2 => by omega, fun h0 => ⟨hlt, hkl, bad2 hkl _ fun h1 h2 => by omega, fun h3 => ⟨hkl, upto_succ hrk ⟨h0, h3⟩⟩⟩⟩, fun hge => ⟨hlt, upto_succ hr ⟨by omega, all_of_getD (p := fun x => 0 ≤ x ∧ x < 16) fun j hj => hrk j (by omega)⟩⟩⟩
 ·refine vmB_true ⟨hV, heq, fun r hr' => ?_⟩
  obtain ⟨j, hj, rfl⟩ := List.getElem_of_mem hr'
  have := hr j (by omega)
  rwa [show O.getD j [] = O[j] by simp [hj]] at this
def c18 : VCfg := ⟨⟨[], [], [], [0, 1, 2]⟩, [], [], []⟩
theorem f18 (N O : List (List Int)) (z z' : Bool) (h : 0 < N.length) : ACall Try.prog 18 [.agg [.pay (.rows (N)) (z), .pay (.rows (O)) (z')]] (fun r objs => r = .int .i64 (N.getD 0 []).length ∧ objs = []) := by
 refine acall_intro (tyP_ok _) c18 2000 [.tmp 2] Try.func18 rfl (by rfl) rfl (by kernel_rfl) ?_
 unfold Try.f18
 simp -implicitDefEqProofs (maxSteps := 4000000) (disch := omega) only [push_cast, c18, Nat.reduceAdd, Nat.reduceSub, Nat.reduceMul, Nat.reduceBEq, Int.reduceToNat, Int.reduceNeg, Int.reduceLE, Int.reduceLT, Int.reduceBEq, Int.reduceBNe, Int.reduceEq, eq_self, reduceCtorEq]
 exact h
def c44 : VCfg := ⟨⟨[], [], [], [0, 2, 3, 11, 19]⟩, [], [], []⟩
theorem f44 (L : List (List Int)) (z : Bool) (hl : L.length ≤ 4611686018427387904) : ACall Try.prog 44 [.pay (.rows L) z] (fun r objs => ∃ b, r = .bool b ∧ (b = false → L.length ≤ 100 ∧ ∀ r ∈ L, r.length ≤ 100) ∧ objs = []) := by
 refine acall_intro (tyP_ok _) c44 2000 [.tmp 2] Try.func44 rfl (by rfl) rfl (by kernel_rfl) ?_
 unfold Try.f44
 simp -implicitDefEqProofs (maxSteps := 4000000) (disch := omega) only [push_cast, c44, Nat.reduceAdd, Nat.reduceSub, Nat.reduceMul, Nat.reduceBEq, Int.reduceToNat, Int.reduceNeg, Int.reduceLE, Int.reduceLT, Int.reduceBEq, Int.reduceBNe, Int.reduceEq, eq_self, reduceCtorEq]
 refine awp_upto (tyP_ok _) c44 2000 [0, 2, 3] (L.length) (fun i => ∀ j, j < i → (L.getD j []).length ≤ 100) (fun i => ⟨23, [(0, .pay (.rows L) z), (2, .bool false), (3, .int .i64 i)], []⟩) (by kernel_rfl) ?_ ?_ ?_
 ·simp -implicitDefEqProofs (maxSteps := 4000000) (disch := omega) only [push_cast, c44, Nat.reduceAdd, Nat.reduceSub, Nat.reduceMul, Nat.reduceBEq, Int.reduceToNat, Int.reduceNeg, Int.reduceLE, Int.reduceLT, Int.reduceBEq, Int.reduceBNe, Int.reduceEq, eq_self, reduceCtorEq]
 ·exact fun j hj => by omega
 intro i hi hr
 simp -implicitDefEqProofs (maxSteps := 4000000) (disch := omega) only [push_cast, c44, Nat.reduceAdd, Nat.reduceSub, Nat.reduceMul, Nat.reduceBEq, Int.reduceToNat, Int.reduceNeg, Int.reduceLE, Int.reduceLT, Int.reduceBEq, Int.reduceBNe, Int.reduceEq, eq_self, reduceCtorEq]
 have key : L.length ≤ 100 → L.length ≤ i ∨ 100 ≤ i → ∀ r ∈ L, r.length ≤ 100 := fun h1 h2 r hr' => by
  obtain ⟨j, hj, rfl⟩ := List.getElem_of_mem hr'
  have := hr j (by omega)
  rwa [show L.getD j [] = L[j] by simp [hj]] at this
 refine ⟨fun hlt => ⟨fun h100 => ⟨hlt, fun hgt => ⟨true, rfl, fun h => by cases h⟩, fun hle => ⟨hlt, upto_succ hr (by omega)⟩⟩, fun h100 => ⟨_, rfl, fun h => ?_⟩⟩, fun hge => ⟨_, rfl, fun h => ?_⟩⟩
 all_goals
  have h9 : L.length ≤ 100 := by simp at h; omega
  exact ⟨h9, key h9 (by omega)⟩
def c12 : VCfg := ⟨⟨[], [], [], [0, 1, 2]⟩, [], [], []⟩
theorem f12 (N O : List (List Int)) (z z' : Bool) (hl : N.length ≤ 4611686018427387904) (ho : O.length ≤ 4611686018427387904) : ACall Try.prog 12 [.agg [.pay (.rows (N)) (z), .pay (.rows (O)) (z')]] (fun r objs => ∃ b, r = .bool b ∧ (b = false → (N.length ≤ 100 ∧ ∀ r ∈ N, r.length ≤ 100) ∧ O.length ≤ 100 ∧ ∀ r ∈ O, r.length ≤ 100) ∧ objs = []) := by
 refine acall_intro (tyP_ok _) c12 2000 [.tmp 2] Try.func12 rfl (by rfl) rfl (by kernel_rfl) ?_
 unfold Try.f12
 simp -implicitDefEqProofs (maxSteps := 4000000) (disch := omega) only [push_cast, c12, Nat.reduceAdd, Nat.reduceSub, Nat.reduceMul, Nat.reduceBEq, Int.reduceToNat, Int.reduceNeg, Int.reduceLE, Int.reduceLT, Int.reduceBEq, Int.reduceBNe, Int.reduceEq, eq_self, reduceCtorEq]
 refine callW_rel (f44 N z hl) ?_
 rintro R O' ⟨b, rfl, hb, rfl⟩
 simp -implicitDefEqProofs (maxSteps := 4000000) (disch := omega) only [push_cast, c12, Nat.reduceAdd, Nat.reduceSub, Nat.reduceMul, Nat.reduceBEq, Int.reduceToNat, Int.reduceNeg, Int.reduceLE, Int.reduceLT, Int.reduceBEq, Int.reduceBNe, Int.reduceEq, eq_self, reduceCtorEq]
 refine ⟨fun h => ⟨true, rfl, fun h => by cases h⟩, fun h => ?_⟩
 refine callW_rel (f44 O z' ho) ?_
 rintro R O' ⟨b2, rfl, hb2, rfl⟩
 simp -implicitDefEqProofs (maxSteps := 4000000) (disch := omega) only [push_cast, c12, Nat.reduceAdd, Nat.reduceSub, Nat.reduceMul, Nat.reduceBEq, Int.reduceToNat, Int.reduceNeg, Int.reduceLE, Int.reduceLT, Int.reduceBEq, Int.reduceBNe, Int.reduceEq, eq_self, reduceCtorEq]
 exact ⟨b2, rfl, fun h2 => ⟨hb h, hb2 h2⟩⟩
def c29 : VCfg := ⟨⟨[], [], [], [0, 1, 4, 5, 10, 14, 25]⟩, [(6, (.op 0 .loose (.op 1 .loose (.op 2 .loose (.op 3 .loose (.op 4 .loose (.op 5 .loose (.op 6 .loose (.op 7 .loose (.op 8 .loose .nil))))))))))], [], []⟩
theorem f29 (x y : List Int) (z z' : Bool) (hx : x.length ≤ 4611686018427387904) :
  ACall Try.prog 29 [.pay (.ints .i64 x) z, .pay (.ints .i64 y) z'] (fun r objs => r = .bool (decide (x = y)) ∧ objs = []) := by
 refine acall_intro (tyP_ok _) c29 2000 [.tmp 4] Try.func29 rfl (by rfl) rfl (by kernel_rfl) ?_
 unfold Try.f29
 simp -implicitDefEqProofs (maxSteps := 4000000) (disch := omega) only [push_cast, c29, Nat.reduceAdd, Nat.reduceSub, Nat.reduceMul, Nat.reduceBEq, Int.reduceToNat, Int.reduceNeg, Int.reduceLE, Int.reduceLT, Int.reduceBEq, Int.reduceBNe, Int.reduceEq, eq_self, reduceCtorEq]
 refine ⟨fun hne => ?_, fun heq => ?_⟩
 ·have : x ≠ y := fun e => by subst e; simp at hne
  simp [this]
 refine awp_upto (tyP_ok _) c29 2000 [0, 1, 4, 5] (x.length) (fun i => ∀ j, j < i → x.getD j 0 = y.getD j 0) (fun i => ⟨26, [(0, .pay (.ints .i64 x) z), (1, .pay (.ints .i64 y) z'), (4, .bool false), (5, .int .i64 i)], []⟩) (by kernel_rfl) rfl ?_ ?_
 ·exact fun j hj => by omega
 intro i hi hp
 simp -implicitDefEqProofs (maxSteps := 4000000) (disch := omega) only [push_cast, c29, Nat.reduceAdd, Nat.reduceSub, Nat.reduceMul, Nat.reduceBEq, Int.reduceToNat, Int.reduceNeg, Int.reduceLE, Int.reduceLT, Int.reduceBEq, Int.reduceBNe, Int.reduceEq, eq_self, reduceCtorEq]
 refine ⟨fun hlt => ⟨hlt, by omega, fun hne => ?_, fun he => ⟨hlt, upto_succ hp he⟩⟩, fun hge => ?_⟩
 ·have : x ≠ y := fun e => hne (by rw [e])
  simp [this]
 ·have : x = y := ints_eq' heq fun j hj => hp j (by omega)
  simp [this]
def c45 : VCfg := ⟨⟨[], [], [], [0]⟩, [], [], []⟩
theorem f45 : ACall Try.prog 45 [] (fun r objs => r = .agg [.pay (.rows ([[1, 0], [0, 1]])) (false), .pay (.rows ([[0, 1], [0, 0]])) (false)] ∧ objs = []) := by
 suffices h : ACall Try.prog 45 [] (fun r objs => r = .agg [.own 0, .own 1] ∧ objs = [.arr (.rows [[1, 0], [0, 1]]) ⟨25, false⟩, .arr (.rows [[0, 1], [0, 0]]) ⟨25, false⟩]) by
  refine h.frz ?_
  rintro r objs ⟨rfl, rfl⟩
  exact ⟨[0, 1], _, 2, rfl, rfl, rfl⟩
 refine acall_intro (tyP_ok _) c45 2000 [.cell 0 24] Try.func45 rfl (by rfl) rfl (by kernel_rfl) ?_
 unfold Try.f45
 simp -implicitDefEqProofs (maxSteps := 4000000) (disch := omega) only [push_cast, c45, Nat.reduceAdd, Nat.reduceSub, Nat.reduceMul, Nat.reduceBEq, Int.reduceToNat, Int.reduceNeg, Int.reduceLE, Int.reduceLT, Int.reduceBEq, Int.reduceBNe, Int.reduceEq, eq_self, reduceCtorEq]
def c61 : VCfg := ⟨⟨[], [], [], [0, 1, 4, 5, 15, 26]⟩, [(4, (.op 0 .loose (.op 1 .loose (.op 2 .loose (.op 3 .loose (.op 4 .loose (.op 5 .loose (.op 6 .loose (.op 7 .loose (.op 8 .loose .nil)))))))))), (5, (.op 0 .loose (.op 1 .loose (.op 2 .loose (.op 3 .loose (.op 4 .loose (.op 5 .loose (.op 6 .loose (.op 7 .loose (.op 8 .loose (.op 9 .loose .nil)))))))))))], [], []⟩
theorem f61 (x y : List Int) (z z' : Bool) (hx : x.length ≤ 4611686018427387904) :
  ACall Try.prog 61 [.pay (.ints .i64 x) z, .pay (.ints .i64 y) z'] (fun r objs => r = .bool (befB x y) ∧ objs = []) := by
 refine acall_intro (tyP_ok _) c61 2000 [.tmp 4] Try.func61 rfl (by rfl) rfl (by kernel_rfl) ?_
 unfold Try.f61
 simp -implicitDefEqProofs (maxSteps := 4000000) (disch := omega) only [push_cast, c61, Nat.reduceAdd, Nat.reduceSub, Nat.reduceMul, Nat.reduceBEq, Int.reduceToNat, Int.reduceNeg, Int.reduceLE, Int.reduceLT, Int.reduceBEq, Int.reduceBNe, Int.reduceEq, eq_self, reduceCtorEq]
 refine awp_upto (tyP_ok _) c61 2000 [0, 1, 4, 5] (x.length) (fun i => i ≤ y.length ∧ ∀ j, j < i → x.getD j 0 = y.getD j 0) (fun i => ⟨41, [(0, .pay (.ints .i64 x) z), (1, .pay (.ints .i64 y) z'), (4, .bool false), (5, .int .i64 i)], []⟩) (by kernel_rfl) ?_ ?_ ?_
 ·simp -implicitDefEqProofs (maxSteps := 4000000) (disch := omega) only [push_cast, c61, Nat.reduceAdd, Nat.reduceSub, Nat.reduceMul, Nat.reduceBEq, Int.reduceToNat, Int.reduceNeg, Int.reduceLE, Int.reduceLT, Int.reduceBEq, Int.reduceBNe, Int.reduceEq, eq_self, reduceCtorEq]
 ·exact ⟨by omega, fun j hj => by omega⟩
 intro i hi hp
 simp -implicitDefEqProofs (maxSteps := 4000000) (disch := omega) only [push_cast, c61, Nat.reduceAdd, Nat.reduceSub, Nat.reduceMul, Nat.reduceBEq, Int.reduceToNat, Int.reduceNeg, Int.reduceLE, Int.reduceLT, Int.reduceBEq, Int.reduceBNe, Int.reduceEq, eq_self, reduceCtorEq]
 refine ⟨fun hlt => ⟨fun hly => ⟨hlt, hly, fun hne => ⟨hlt, hly, (befB_ne hp.2 hlt hly hne).symm⟩, fun he => ⟨hlt, by omega, upto_succ hp.2 he⟩⟩, fun hge => (befB_end hp.2 hi hp.1 (by omega)).symm⟩, fun hge => (befB_end hp.2 hi hp.1 (by omega)).symm⟩
end Go.AM
end

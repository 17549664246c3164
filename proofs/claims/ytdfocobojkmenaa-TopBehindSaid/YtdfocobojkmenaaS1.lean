/-
  Contracts of the package auto's functions, of Valid on both sides and of the chapter's small functions; conditions in each statement.
-/
import Derived.Test.YtdfocobojkmenaaF4
import Derived.Test.YtdfocobojkmenaaProg
import Derived.KernelRfl
import Derived.Test.YtdfocobojkmenaaP1
import Derived.Test.YtdfocobojkmenaaP2
import Derived.Test.YtdfocobojkmenaaF5
set_option linter.unusedVariables false
set_option linter.unusedSimpArgs false
set_option linter.unusedSectionVars false
set_option linter.unnecessarySimpa false

/-! text UkT -/
section
namespace Go.AM
open Go Go.Proofs
theorem t3 : tyP Try.prog 3 = some ⟨1, 8, .int .i64, .int .i64 0⟩ := by kernel_rfl
theorem t4 : tyP Try.prog 4 = some ⟨1, 1, .bool, .bool false⟩ := by kernel_rfl
theorem t5 : tyP Try.prog 5 = some ⟨1, 1, .int .u8, .int .u8 0⟩ := by kernel_rfl
theorem t22 : tyP Try.prog 22 = some ⟨1, 24, .slice 37, .lit (.slice none 0 0)⟩ := by kernel_rfl
theorem t24 : tyP Try.prog 24 = some ⟨2, 48, .struct [(0, 22), (1, 22)], .agg [.lit (.slice none 0 0), .lit (.slice none 0 0)]⟩ := by kernel_rfl
theorem t27 : tyP Try.prog 27 = some ⟨1, 8, .int .i64, .int .i64 0⟩ := by kernel_rfl
theorem t37 : tyP Try.prog 37 = some ⟨1, 24, .slice 3, .lit (.slice none 0 0)⟩ := by kernel_rfl
theorem t57 : tyP Try.prog 57 = some ⟨1, 24, .struct [(0, 22)], .agg [.lit (.slice none 0 0)]⟩ := by kernel_rfl
theorem t59 : tyP Try.prog 59 = some ⟨2, 48, .struct [(0, 57), (1, 37)], .agg [.lit (.slice none 0 0), .lit (.slice none 0 0)]⟩ := by kernel_rfl
theorem t61 : tyP Try.prog 61 = some ⟨2, 32, .struct [(0, 3), (1, 37)], .agg [.int .i64 0, .lit (.slice none 0 0)]⟩ := by kernel_rfl
theorem t72 : tyP Try.prog 72 = some ⟨1, 24, .slice 4, .lit (.slice none 0 0)⟩ := by kernel_rfl
theorem t76 : tyP Try.prog 76 = some ⟨1, 8, .ptr 79, .lit (.pointer none)⟩ := by kernel_rfl
theorem t77 : tyP Try.prog 77 = some ⟨6, 48, .array 6 76, .agg [.lit (.pointer none), .lit (.pointer none), .lit (.pointer none), .lit (.pointer none), .lit (.pointer none), .lit (.pointer none)]⟩ := by kernel_rfl
theorem t79 : tyP Try.prog 79 = some ⟨7, 56, .struct [(0, 4), (1, 77)], .agg [.bool false, .lit (.pointer none), .lit (.pointer none), .lit (.pointer none), .lit (.pointer none), .lit (.pointer none), .lit (.pointer none)]⟩ := by kernel_rfl
theorem t97 : tyP Try.prog 97 = some ⟨2, 16, .array 2 3, .agg [.int .i64 0, .int .i64 0]⟩ := by kernel_rfl
theorem t98 : tyP Try.prog 98 = some ⟨1, 24, .slice 97, .lit (.slice none 0 0)⟩ := by kernel_rfl
theorem t104 : tyP Try.prog 104 = some ⟨1, 8, .ptr 106, .lit (.pointer none)⟩ := by kernel_rfl
theorem t106 : tyP Try.prog 106 = some ⟨3, 56, .struct [(0, 24), (2, 3)], .agg [.lit (.slice none 0 0), .lit (.slice none 0 0), .int .i64 0]⟩ := by kernel_rfl
theorem t111 : tyP Try.prog 111 = some ⟨4, 32, .struct [(0, 97), (2, 3), (3, 3)], .agg [.int .i64 0, .int .i64 0, .int .i64 0, .int .i64 0]⟩ := by kernel_rfl
theorem t112 : tyP Try.prog 112 = some ⟨1, 24, .slice 111, .lit (.slice none 0 0)⟩ := by kernel_rfl
theorem t113 : tyP Try.prog 113 = some ⟨1, 8, .map 97 4, .lit (.map none)⟩ := by kernel_rfl
theorem t124 : tyP Try.prog 124 = some ⟨1, 8, .map 126 3, .lit (.map none)⟩ := by kernel_rfl
theorem t126 : tyP Try.prog 126 = some ⟨13, 104, .array 13 3, .agg [.int .i64 0, .int .i64 0, .int .i64 0, .int .i64 0, .int .i64 0, .int .i64 0, .int .i64 0, .int .i64 0, .int .i64 0, .int .i64 0, .int .i64 0, .int .i64 0, .int .i64 0]⟩ := by kernel_rfl
attribute [push_cast] t3 t4 t5 t22 t24 t27 t37 t57 t59 t61 t72 t76 t77 t79 t97 t98 t104 t106 t111 t112 t113 t124 t126
end Go.AM
end

/-! text Uk1 -/
section
namespace Go.AM
open Go Go.Proofs

/- mizmaze/auto.Letters -/
def c82 : VCfg := ⟨⟨[], [], [], [0, 1, 2]⟩, [], [], []⟩
theorem f82 (a : List (List Int)) (z : Bool) (h : 0 < a.length) : ACall Try.prog 82 [.agg [.pay (.rows a) z]] (fun r objs => r = .int .i64 (a.getD 0 []).length ∧ objs = []) := by
  refine acall_intro (tyP_ok _) c82 2000 [.tmp 2] Try.func82 rfl (by rfl) rfl (by kernel_rfl) ?_
  unfold Try.f82
  simp (config := {implicitDefEqProofs := false, maxSteps := 4000000}) (disch := omega) only [push_cast, c82, Nat.reduceAdd, Nat.reduceSub, Nat.reduceMul, Nat.reduceBEq, Int.reduceToNat, Int.reduceNeg, Int.reduceLE, Int.reduceLT, Int.reduceBEq, Int.reduceBNe, Int.reduceEq, Bool.not_true, Bool.not_false, eq_self, reduceCtorEq]
  exact h
/- mizmaze/auto.within[[]int]$1 -/
def c93 : VCfg := ⟨⟨[], [], [], [0, 1, 3]⟩, [], [], []⟩
theorem f93 (x n : Int) : ACall Try.prog 93 [.int .i64 x, .fref [.int .i64 n]] (fun r objs => r = .bool (decide (x < 0 ∨ n ≤ x)) ∧ objs = []) := by
  refine acall_intro (tyP_ok _) c93 2000 [.tmp 3] Try.func93 rfl (by rfl) rfl (by kernel_rfl) ?_
  unfold Try.f93
  simp (config := {implicitDefEqProofs := false, maxSteps := 4000000}) (disch := omega) only [push_cast, c93, Nat.reduceAdd, Nat.reduceSub, Nat.reduceMul, Nat.reduceBEq, Int.reduceToNat, Int.reduceNeg, Int.reduceLE, Int.reduceLT, Int.reduceBEq, Int.reduceBNe, Int.reduceEq, Bool.not_true, Bool.not_false, eq_self, reduceCtorEq]
  exact ⟨fun h => by simp [h], fun h => by simp [show ¬ x < 0 by omega]⟩
/- slices.IndexFunc[[]int,int] -/
def c92 : VCfg := ⟨⟨[], [], [], [0, 1, 4, 5, 7, 8, 9, 16]⟩, [], [], []⟩
theorem f92 (l : List Int) (z : Bool) (hl : l.length ≤ 4611686018427387904) (g : FuncId) (caps : List AV) (p : Int → Bool) (hg : ∀ x, ACall Try.prog g (.int .i64 x :: caps) (fun r objs => r = .bool (p x) ∧ objs = [])) (hc : NoH caps) :
    ACall Try.prog 92 [.pay (.ints .i64 l) z, .clo g caps] (fun r objs => ∃ n : Int, (0 ≤ n ↔ ∃ x ∈ l, p x = true) ∧ r = .int .i64 n ∧ objs = []) := by
  refine acall_intro (tyP_ok _) c92 2000 [.tmp 4] Try.func92 rfl (by rfl) rfl (by kernel_rfl) ?_
  unfold Try.f92
  simp (config := {implicitDefEqProofs := false, maxSteps := 4000000}) (disch := omega) only [push_cast, c92, Nat.reduceAdd, Nat.reduceSub, Nat.reduceMul, Nat.reduceBEq, Int.reduceToNat, Int.reduceNeg, Int.reduceLE, Int.reduceLT, Int.reduceBEq, Int.reduceBNe, Int.reduceEq, Bool.not_true, Bool.not_false, eq_self, reduceCtorEq]
  refine awp_upto (tyP_ok _) c92 2000 [0, 1, 4, 7, 8] (l.length) (fun i => ∀ j, j < i → p (l.getD j 0) = false) (fun i => ⟨19, [(0, .pay (.ints .i64 l) z), (1, .clo g caps), (4, .int .i64 0), (7, .int .i64 l.length), (8, .int .i64 i)], []⟩) (by kernel_rfl) ?_ ?_ ?_
  · simp (config := {implicitDefEqProofs := false, maxSteps := 4000000}) (disch := omega) only [push_cast, c92, hc.hs, hc.mp, Nat.reduceAdd, Nat.reduceSub, Nat.reduceMul, Nat.reduceBEq, Int.reduceToNat, Int.reduceNeg, Int.reduceLE, Int.reduceLT, Int.reduceBEq, Int.reduceBNe, Int.reduceEq, Bool.not_true, Bool.not_false, eq_self, reduceCtorEq]
  · exact fun j hj => by omega
  intro i hi hr
  simp (config := {implicitDefEqProofs := false, maxSteps := 4000000}) (disch := omega) only [push_cast, c92, hc.hs, hc.mp, hc.no3, Nat.reduceAdd, Nat.reduceSub, Nat.reduceMul, Nat.reduceBEq, Int.reduceToNat, Int.reduceNeg, Int.reduceLE, Int.reduceLT, Int.reduceBEq, Int.reduceBNe, Int.reduceEq, Bool.not_true, Bool.not_false, eq_self, reduceCtorEq]
  refine ⟨fun hlt => ⟨hlt, ?_⟩, fun hge => ⟨-1, ?_, rfl⟩⟩
  · refine callW_eq _ _ (hg _) ?_
    simp (config := {implicitDefEqProofs := false, maxSteps := 4000000}) (disch := omega) only [push_cast, c92, hc.hs, hc.mp, hc.no3, Nat.reduceAdd, Nat.reduceSub, Nat.reduceMul, Nat.reduceBEq, Int.reduceToNat, Int.reduceNeg, Int.reduceLE, Int.reduceLT, Int.reduceBEq, Int.reduceBNe, Int.reduceEq, Bool.not_true, Bool.not_false, eq_self, reduceCtorEq]
    refine ⟨fun h => ⟨i, ⟨fun _ => ⟨_, getD_mem hlt, h⟩, fun _ => by omega⟩, rfl⟩, fun h => ⟨hlt, fun j hj => ?_⟩⟩
    rcases Nat.lt_succ_iff_lt_or_eq.1 hj with hj | rfl
    · exact hr j hj
    · exact h
  · refine ⟨fun h => by omega, fun ⟨x, hx, h⟩ => ?_⟩
    obtain ⟨j, hj, rfl⟩ := List.getElem_of_mem hx
    have := hr j (by omega)
    have e : l.getD j 0 = l[j] := by simp [hj]
    rw [e, h] at this
    cases this
/- slices.ContainsFunc[[]int,int] -/
def c78 : VCfg := ⟨⟨[], [], [], [0, 1, 4]⟩, [], [], []⟩
theorem f78 (l : List Int) (z : Bool) (hl : l.length ≤ 4611686018427387904) (g : FuncId) (caps : List AV) (p : Int → Bool) (hg : ∀ x, ACall Try.prog g (.int .i64 x :: caps) (fun r objs => r = .bool (p x) ∧ objs = [])) (hc : NoH caps) :
    ACall Try.prog 78 [.pay (.ints .i64 l) z, .clo g caps] (fun r objs => r = .bool (l.any p) ∧ objs = []) := by
  refine acall_intro (tyP_ok _) c78 2000 [.tmp 4] Try.func78 rfl (by rfl) rfl (by kernel_rfl) ?_
  unfold Try.f78
  simp (config := {implicitDefEqProofs := false, maxSteps := 4000000}) (disch := omega) only [push_cast, c78, hc.hs, hc.mp, hc.no2, hc.no3, Nat.reduceAdd, Nat.reduceSub, Nat.reduceMul, Nat.reduceBEq, Int.reduceToNat, Int.reduceNeg, Int.reduceLE, Int.reduceLT, Int.reduceBEq, Int.reduceBNe, Int.reduceEq, Bool.not_true, Bool.not_false, eq_self, reduceCtorEq]
  refine callW_rel (f92 l z hl g caps p hg hc) ?_
  rintro R O ⟨n, hn, rfl, rfl⟩
  simp (config := {implicitDefEqProofs := false, maxSteps := 4000000}) (disch := omega) only [push_cast, c78, hc.hs, hc.mp, hc.no2, hc.no3, Nat.reduceAdd, Nat.reduceSub, Nat.reduceMul, Nat.reduceBEq, Int.reduceToNat, Int.reduceNeg, Int.reduceLE, Int.reduceLT, Int.reduceBEq, Int.reduceBNe, Int.reduceEq, Bool.not_true, Bool.not_false, eq_self, reduceCtorEq]
  rw [Bool.eq_iff_iff, decide_eq_true_eq, hn, List.any_eq_true]
/- mizmaze/auto.within[[]int] -/
def c81 : VCfg := ⟨⟨[], [], [], [0, 1, 3, 4]⟩, [], [], []⟩
theorem f81 (l : List Int) (z : Bool) (n : Int) (hl : l.length ≤ 4611686018427387904) :
    ACall Try.prog 81 [.pay (.ints .i64 l) z, .int .i64 n] (fun r objs => r = .bool (belowB l n) ∧ objs = []) := by
  refine acall_intro (tyP_ok _) c81 2000 [.tmp 4] Try.func81 rfl (by rfl) rfl (by kernel_rfl) ?_
  unfold Try.f81
  simp (config := {implicitDefEqProofs := false, maxSteps := 4000000}) (disch := omega) only [push_cast, c81, Nat.reduceAdd, Nat.reduceSub, Nat.reduceMul, Nat.reduceBEq, Int.reduceToNat, Int.reduceNeg, Int.reduceLE, Int.reduceLT, Int.reduceBEq, Int.reduceBNe, Int.reduceEq, Bool.not_true, Bool.not_false, eq_self, reduceCtorEq]
  refine callW_eq _ _ (f78 l z hl 93 [.fref [.int .i64 n]] (fun x => decide (x < 0 ∨ n ≤ x)) (fun x => f93 x n) (NoH.of rfl rfl)) ?_
  simp (config := {implicitDefEqProofs := false, maxSteps := 4000000}) (disch := omega) only [push_cast, c81, Nat.reduceAdd, Nat.reduceSub, Nat.reduceMul, Nat.reduceBEq, Int.reduceToNat, Int.reduceNeg, Int.reduceLE, Int.reduceLT, Int.reduceBEq, Int.reduceBNe, Int.reduceEq, Bool.not_true, Bool.not_false, eq_self, reduceCtorEq]
  rw [Bool.eq_iff_iff]
  simp [belowB, List.all_eq_true, List.any_eq_false]
/- slices.IndexFunc[[][]int,[]int] -/
def c80 : VCfg := ⟨⟨[], [], [], [0, 1, 4, 5, 7, 8, 9, 16]⟩, [], [], []⟩
theorem f80 (l : List (List Int)) (z : Bool) (hl : l.length ≤ 4611686018427387904) (g : FuncId) (caps : List AV) (p : List Int → Bool) (hg : ∀ x, x ∈ l → ACall Try.prog g (.pay (.ints .i64 x) false :: caps) (fun r objs => r = .bool (p x) ∧ objs = [])) (hc : NoH caps) :
    ACall Try.prog 80 [.pay (.rows l) z, .clo g caps] (fun r objs => ∃ n : Int, (0 ≤ n ↔ ∃ x ∈ l, p x = true) ∧ r = .int .i64 n ∧ objs = []) := by
  refine acall_intro (tyP_ok _) c80 2000 [.tmp 4] Try.func80 rfl (by rfl) rfl (by kernel_rfl) ?_
  unfold Try.f80
  simp (config := {implicitDefEqProofs := false, maxSteps := 4000000}) (disch := omega) only [push_cast, c80, Nat.reduceAdd, Nat.reduceSub, Nat.reduceMul, Nat.reduceBEq, Int.reduceToNat, Int.reduceNeg, Int.reduceLE, Int.reduceLT, Int.reduceBEq, Int.reduceBNe, Int.reduceEq, Bool.not_true, Bool.not_false, eq_self, reduceCtorEq]
  refine awp_upto (tyP_ok _) c80 2000 [0, 1, 4, 7, 8] (l.length) (fun i => ∀ j, j < i → p (l.getD j []) = false) (fun i => ⟨19, [(0, .pay (.rows l) z), (1, .clo g caps), (4, .int .i64 0), (7, .int .i64 l.length), (8, .int .i64 i)], []⟩) (by kernel_rfl) ?_ ?_ ?_
  · simp (config := {implicitDefEqProofs := false, maxSteps := 4000000}) (disch := omega) only [push_cast, c80, hc.hs, hc.mp, Nat.reduceAdd, Nat.reduceSub, Nat.reduceMul, Nat.reduceBEq, Int.reduceToNat, Int.reduceNeg, Int.reduceLE, Int.reduceLT, Int.reduceBEq, Int.reduceBNe, Int.reduceEq, Bool.not_true, Bool.not_false, eq_self, reduceCtorEq]
  · exact fun j hj => by omega
  intro i hi hr
  simp (config := {implicitDefEqProofs := false, maxSteps := 4000000}) (disch := omega) only [push_cast, c80, hc.hs, hc.mp, hc.no3, Nat.reduceAdd, Nat.reduceSub, Nat.reduceMul, Nat.reduceBEq, Int.reduceToNat, Int.reduceNeg, Int.reduceLE, Int.reduceLT, Int.reduceBEq, Int.reduceBNe, Int.reduceEq, Bool.not_true, Bool.not_false, eq_self, reduceCtorEq]
  refine ⟨fun hlt => ⟨hlt, ?_⟩, fun hge => ⟨-1, ?_, rfl⟩⟩
  · refine callW_eq _ _ (hg _ (getD_mem' hlt)) ?_
    simp (config := {implicitDefEqProofs := false, maxSteps := 4000000}) (disch := omega) only [push_cast, c80, hc.hs, hc.mp, hc.no3, Nat.reduceAdd, Nat.reduceSub, Nat.reduceMul, Nat.reduceBEq, Int.reduceToNat, Int.reduceNeg, Int.reduceLE, Int.reduceLT, Int.reduceBEq, Int.reduceBNe, Int.reduceEq, Bool.not_true, Bool.not_false, eq_self, reduceCtorEq]
    refine ⟨fun h => ⟨i, ⟨fun _ => ⟨_, getD_mem' hlt, h⟩, fun _ => by omega⟩, rfl⟩, fun h => ⟨hlt, fun j hj => ?_⟩⟩
    rcases Nat.lt_succ_iff_lt_or_eq.1 hj with hj | rfl
    · exact hr j hj
    · exact h
  · refine ⟨fun h => by omega, fun ⟨x, hx, h⟩ => ?_⟩
    obtain ⟨j, hj, rfl⟩ := List.getElem_of_mem hx
    have := hr j (by omega)
    have e : l.getD j [] = l[j] := by simp [hj]
    rw [e, h] at this
    cases this
/- slices.ContainsFunc[[][]int,[]int] -/
def c56 : VCfg := ⟨⟨[], [], [], [0, 1, 4]⟩, [], [], []⟩
theorem f56 (l : List (List Int)) (z : Bool) (hl : l.length ≤ 4611686018427387904) (g : FuncId) (caps : List AV) (p : List Int → Bool) (hg : ∀ x, x ∈ l → ACall Try.prog g (.pay (.ints .i64 x) false :: caps) (fun r objs => r = .bool (p x) ∧ objs = [])) (hc : NoH caps) :
    ACall Try.prog 56 [.pay (.rows l) z, .clo g caps] (fun r objs => r = .bool (l.any p) ∧ objs = []) := by
  refine acall_intro (tyP_ok _) c56 2000 [.tmp 4] Try.func56 rfl (by rfl) rfl (by kernel_rfl) ?_
  unfold Try.f56
  simp (config := {implicitDefEqProofs := false, maxSteps := 4000000}) (disch := omega) only [push_cast, c56, hc.hs, hc.mp, hc.no2, hc.no3, Nat.reduceAdd, Nat.reduceSub, Nat.reduceMul, Nat.reduceBEq, Int.reduceToNat, Int.reduceNeg, Int.reduceLE, Int.reduceLT, Int.reduceBEq, Int.reduceBNe, Int.reduceEq, Bool.not_true, Bool.not_false, eq_self, reduceCtorEq]
  refine callW_rel (f80 l z hl g caps p hg hc) ?_
  rintro R O ⟨n, hn, rfl, rfl⟩
  simp (config := {implicitDefEqProofs := false, maxSteps := 4000000}) (disch := omega) only [push_cast, c56, hc.hs, hc.mp, hc.no2, hc.no3, Nat.reduceAdd, Nat.reduceSub, Nat.reduceMul, Nat.reduceBEq, Int.reduceToNat, Int.reduceNeg, Int.reduceLE, Int.reduceLT, Int.reduceBEq, Int.reduceBNe, Int.reduceEq, Bool.not_true, Bool.not_false, eq_self, reduceCtorEq]
  rw [Bool.eq_iff_iff, decide_eq_true_eq, hn, List.any_eq_true]
/- mizmaze/auto.Valid$1 -/
def c91 : VCfg := ⟨⟨[], [], [], [0, 1, 2, 4]⟩, [], [], []⟩
theorem f91 (row : List Int) (z z' : Bool) (k : Int) (a : List (List Int)) (hl : row.length ≤ 4611686018427387904) :
    ACall Try.prog 91 [.pay (.ints .i64 row) z, .fref [.int .i64 k], .fref [.pay (.rows a) z']] (fun r objs => r = .bool (!(decide ((row.length : Int) = k) && belowB row a.length)) ∧ objs = []) := by
  refine acall_intro (tyP_ok _) c91 2000 [.tmp 4] Try.func91 rfl (by rfl) rfl (by kernel_rfl) ?_
  unfold Try.f91
  simp (config := {implicitDefEqProofs := false, maxSteps := 4000000}) (disch := omega) only [push_cast, c91, Nat.reduceAdd, Nat.reduceSub, Nat.reduceMul, Nat.reduceBEq, Int.reduceToNat, Int.reduceNeg, Int.reduceLE, Int.reduceLT, Int.reduceBEq, Int.reduceBNe, Int.reduceEq, Bool.not_true, Bool.not_false, eq_self, reduceCtorEq]
  refine ⟨fun h => by simp [h], fun h => ?_⟩
  refine callW_eq _ _ (f81 row z a.length hl) ?_
  simp (config := {implicitDefEqProofs := false, maxSteps := 4000000}) (disch := omega) only [push_cast, c91, Nat.reduceAdd, Nat.reduceSub, Nat.reduceMul, Nat.reduceBEq, Int.reduceToNat, Int.reduceNeg, Int.reduceLE, Int.reduceLT, Int.reduceBEq, Int.reduceBNe, Int.reduceEq, Bool.not_true, Bool.not_false, eq_self, reduceCtorEq]
  simp [h]
/- mizmaze/auto.Valid -/
def c76 : VCfg := ⟨⟨[], [], [], [0, 1, 2, 3, 13]⟩, [], [], []⟩
theorem f76 (a : List (List Int)) (z : Bool) (hl : a.length ≤ 4611686018427387904) (hl2 : ∀ r ∈ a, r.length ≤ 4611686018427387904) :
    ACall Try.prog 76 [.agg [.pay (.rows a) z]] (fun r objs => r = .bool (vldB a) ∧ objs = []) := by
  refine acall_intro (tyP_ok _) c76 2000 [.tmp 2] Try.func76 rfl (by rfl) rfl (by kernel_rfl) ?_
  unfold Try.f76
  simp (config := {implicitDefEqProofs := false, maxSteps := 4000000}) (disch := omega) only [push_cast, c76, Nat.reduceAdd, Nat.reduceSub, Nat.reduceMul, Nat.reduceBEq, Int.reduceToNat, Int.reduceNeg, Int.reduceLE, Int.reduceLT, Int.reduceBEq, Int.reduceBNe, Int.reduceEq, Bool.not_true, Bool.not_false, eq_self, reduceCtorEq]
  refine ⟨fun h => vldB_false fun hv => by have := hv.n1; omega, fun h => ⟨fun h2 => vldB_false fun hv => by have := hv.n2; omega, fun h2 => ⟨by omega, fun h3 => ⟨fun h4 => ?_, fun h4 => vldB_false fun hv => by have := hv.k2; omega⟩, fun h3 => vldB_false fun hv => by have := hv.k1; omega⟩⟩⟩
  refine callW_eq _ _ (f56 a z hl 91 _ (fun row => !(decide ((row.length : Int) = (a.getD 0 []).length) && belowB row a.length)) (fun x hx => f91 x false z _ a (hl2 x hx)) (NoH.of rfl rfl)) ?_
  simp (config := {implicitDefEqProofs := false, maxSteps := 4000000}) (disch := omega) only [push_cast, c76, Nat.reduceAdd, Nat.reduceSub, Nat.reduceMul, Nat.reduceBEq, Int.reduceToNat, Int.reduceNeg, Int.reduceLE, Int.reduceLT, Int.reduceBEq, Int.reduceBNe, Int.reduceEq, Bool.not_true, Bool.not_false, eq_self, reduceCtorEq]
  rw [Bool.eq_iff_iff, vldB_iff]
  simp only [Bool.not_eq_true', List.any_eq_false, Bool.not_eq_true', Bool.not_eq_false, Bool.not_eq_true]
  constructor
  · intro h5
    refine ⟨by omega, by omega, by omega, by omega, fun r hr => ?_⟩
    have := h5 r hr
    simp only [Bool.not_eq_false', Bool.and_eq_true, decide_eq_true_eq, belowB_iff] at this
    exact ⟨by omega, this.2⟩
  · intro hv r hr
    have := hv.row r hr
    simp only [Bool.not_eq_false', Bool.and_eq_true, decide_eq_true_eq, belowB_iff]
    exact ⟨by omega, this.2⟩
/- mizmaze/auto.Word -/
def c58 : VCfg := ⟨⟨[], [], [], [0, 1, 2, 4]⟩, [], [], []⟩
theorem f58 (a : List (List Int)) (z z' : Bool) (w : List Int) (ha : 0 < a.length) (hw : w.length ≤ 4611686018427387904) :
    ACall Try.prog 58 [.agg [.pay (.rows a) z], .pay (.ints .i64 w) z'] (fun r objs => r = .bool (wordB (a.getD 0 []).length w) ∧ objs = []) := by
  refine acall_intro (tyP_ok _) c58 2000 [.tmp 4] Try.func58 rfl (by rfl) rfl (by kernel_rfl) ?_
  unfold Try.f58
  simp (config := {implicitDefEqProofs := false, maxSteps := 4000000}) (disch := omega) only [push_cast, c58, Nat.reduceAdd, Nat.reduceSub, Nat.reduceMul, Nat.reduceBEq, Int.reduceToNat, Int.reduceNeg, Int.reduceLE, Int.reduceLT, Int.reduceBEq, Int.reduceBNe, Int.reduceEq, Bool.not_true, Bool.not_false, eq_self, reduceCtorEq]
  refine ⟨fun h => ?_, fun h => by simp [wordB, show ¬ w.length ≤ 40000 by omega]⟩
  refine callW_eq _ _ (f82 a z ha) ?_
  simp (config := {implicitDefEqProofs := false, maxSteps := 4000000}) (disch := omega) only [push_cast, c58, Nat.reduceAdd, Nat.reduceSub, Nat.reduceMul, Nat.reduceBEq, Int.reduceToNat, Int.reduceNeg, Int.reduceLE, Int.reduceLT, Int.reduceBEq, Int.reduceBNe, Int.reduceEq, Bool.not_true, Bool.not_false, eq_self, reduceCtorEq]
  refine callW_eq _ _ (f81 w z' _ hw) ?_
  simp (config := {implicitDefEqProofs := false, maxSteps := 4000000}) (disch := omega) only [push_cast, c58, Nat.reduceAdd, Nat.reduceSub, Nat.reduceMul, Nat.reduceBEq, Int.reduceToNat, Int.reduceNeg, Int.reduceLE, Int.reduceLT, Int.reduceBEq, Int.reduceBNe, Int.reduceEq, Bool.not_true, Bool.not_false, eq_self, reduceCtorEq]
  simp [wordB, show w.length ≤ 40000 by omega]
/- mizmaze/auto.State -/
def c64 : VCfg := ⟨⟨[], [], [], [0, 1, 2, 4]⟩, [], [], []⟩
theorem f64 (a : List (List Int)) (z : Bool) (s : Int) :
    ACall Try.prog 64 [.agg [.pay (.rows a) z], .int .i64 s] (fun r objs => r = .bool (decide (0 ≤ s ∧ s < a.length)) ∧ objs = []) := by
  refine acall_intro (tyP_ok _) c64 2000 [.tmp 4] Try.func64 rfl (by rfl) rfl (by kernel_rfl) ?_
  unfold Try.f64
  simp (config := {implicitDefEqProofs := false, maxSteps := 4000000}) (disch := omega) only [push_cast, c64, Nat.reduceAdd, Nat.reduceSub, Nat.reduceMul, Nat.reduceBEq, Int.reduceToNat, Int.reduceNeg, Int.reduceLE, Int.reduceLT, Int.reduceBEq, Int.reduceBNe, Int.reduceEq, Bool.not_true, Bool.not_false, eq_self, reduceCtorEq]
  exact ⟨fun h => by simp [h], fun h => by simp [show ¬ 0 ≤ s by omega]⟩
end Go.AM
end

/-! text Uk2 -/
section
namespace Go.AM
open Go Go.Proofs
/- mizmaze/mealy.Auto -/
def c59 : VCfg := ⟨⟨[], [], [], [0, 1, 2]⟩, [], [], []⟩
theorem f59 (N O : List (List Int)) (z z' : Bool) : ACall Try.prog 59 [.agg [.pay (.rows (N)) (z), .pay (.rows (O)) (z')]] (fun r objs => r = .agg [.pay (.rows N) z] ∧ objs = []) := by
  refine acall_intro (tyP_ok _) c59 2000 [.cell 2 57] Try.func59 rfl (by rfl) rfl (by kernel_rfl) ?_
  unfold Try.f59
  simp (config := {implicitDefEqProofs := false, maxSteps := 4000000}) (disch := omega) only [push_cast, c59, Nat.reduceAdd, Nat.reduceSub, Nat.reduceMul, Nat.reduceBEq, Int.reduceToNat, Int.reduceNeg, Int.reduceLE, Int.reduceLT, Int.reduceBEq, Int.reduceBNe, Int.reduceEq, Bool.not_true, Bool.not_false, eq_self, reduceCtorEq]
/- mizmaze/mealy.Valid$1$1 -/
def c79 : VCfg := ⟨⟨[], [], [], [0, 2]⟩, [], [], []⟩
theorem f79 (x : Int) : ACall Try.prog 79 [.int .i64 x] (fun r objs => r = .bool (decide (x < 0 ∨ 16 ≤ x)) ∧ objs = []) := by
  refine acall_intro (tyP_ok _) c79 2000 [.tmp 2] Try.func79 rfl (by rfl) rfl (by kernel_rfl) ?_
  unfold Try.f79
  simp (config := {implicitDefEqProofs := false, maxSteps := 4000000}) (disch := omega) only [push_cast, c79, Nat.reduceAdd, Nat.reduceSub, Nat.reduceMul, Nat.reduceBEq, Int.reduceToNat, Int.reduceNeg, Int.reduceLE, Int.reduceLT, Int.reduceBEq, Int.reduceBNe, Int.reduceEq, Bool.not_true, Bool.not_false, eq_self, reduceCtorEq]
  exact ⟨fun h => by simp [h], fun h => by simp [show ¬ x < 0 by omega]⟩
/- mizmaze/mealy.Valid$1 -/
def c77 : VCfg := ⟨⟨[], [], [], [0, 1, 3]⟩, [], [], []⟩
theorem f77 (row : List Int) (z : Bool) (N O : List (List Int)) (z1 z2 : Bool) (h0 : 0 < N.length) (hl : row.length ≤ 4611686018427387904) : ACall Try.prog 77 [.pay (.ints .i64 row) z, .fref [.pay (.rows N) z1, .pay (.rows O) z2]] (fun r objs => r = .bool (!(decide (row.length = (N.getD 0 []).length) && belowB row 16)) ∧ objs = []) := by
  refine acall_intro (tyP_ok _) c77 2000 [.tmp 3] Try.func77 rfl (by rfl) rfl (by kernel_rfl) ?_
  unfold Try.f77
  simp (config := {implicitDefEqProofs := false, maxSteps := 4000000}) (disch := omega) only [push_cast, c77, Nat.reduceAdd, Nat.reduceSub, Nat.reduceMul, Nat.reduceBEq, Int.reduceToNat, Int.reduceNeg, Int.reduceLE, Int.reduceLT, Int.reduceBEq, Int.reduceBNe, Int.reduceEq, Bool.not_true, Bool.not_false, eq_self, reduceCtorEq]
  refine ⟨by omega, fun h => by rw [decide_eq_false h]; rfl, fun h => ?_⟩
  refine callW_eq _ _ (f78 row z hl 79 [] (fun x => decide (x < 0 ∨ 16 ≤ x)) (fun x => f79 x) (NoH.of rfl rfl)) ?_
  simp (config := {implicitDefEqProofs := false, maxSteps := 4000000}) (disch := omega) only [push_cast, c77, Nat.reduceAdd, Nat.reduceSub, Nat.reduceMul, Nat.reduceBEq, Int.reduceToNat, Int.reduceNeg, Int.reduceLE, Int.reduceLT, Int.reduceBEq, Int.reduceBNe, Int.reduceEq, Bool.not_true, Bool.not_false, eq_self, reduceCtorEq]
  rw [decide_eq_true h, Bool.true_and, belowB, Bool.eq_iff_iff]
  simp [List.any_eq_true, List.all_eq_true, Bool.not_eq_true']
  exact ⟨fun ⟨x, h1, h2⟩ => ⟨x, h1, fun h => by omega⟩, fun ⟨x, h1, h2⟩ => ⟨x, h1, by omega⟩⟩
/- mizmaze/mealy.Valid -/
def c55 : VCfg := ⟨⟨[], [], [], [0, 1, 2, 15]⟩, [], [], []⟩
theorem f55 (N O : List (List Int)) (z z' : Bool) (hl : N.length ≤ 4611686018427387904) (hl2 : ∀ r ∈ N, r.length ≤ 4611686018427387904) (ho : O.length ≤ 4611686018427387904) (ho2 : ∀ r ∈ O, r.length ≤ 4611686018427387904) :
    ACall Try.prog 55 [.agg [.pay (.rows (N)) (z), .pay (.rows (O)) (z')]] (fun r objs => r = .bool (vmB N O) ∧ objs = []) := by
  refine acall_intro (tyP_ok _) c55 2000 [.tmp 2] Try.func55 rfl (by rfl) rfl (by kernel_rfl) ?_
  unfold Try.f55
  simp (config := {implicitDefEqProofs := false, maxSteps := 4000000}) (disch := omega) only [push_cast, c55, Nat.reduceAdd, Nat.reduceSub, Nat.reduceMul, Nat.reduceBEq, Int.reduceToNat, Int.reduceNeg, Int.reduceLE, Int.reduceLT, Int.reduceBEq, Int.reduceBNe, Int.reduceEq, Bool.not_true, Bool.not_false, eq_self, reduceCtorEq]
  refine callW_eq _ _ (f59 N O z z') ?_
  simp (config := {implicitDefEqProofs := false, maxSteps := 4000000}) (disch := omega) only [push_cast, c55, Nat.reduceAdd, Nat.reduceSub, Nat.reduceMul, Nat.reduceBEq, Int.reduceToNat, Int.reduceNeg, Int.reduceLE, Int.reduceLT, Int.reduceBEq, Int.reduceBNe, Int.reduceEq, Bool.not_true, Bool.not_false, eq_self, reduceCtorEq]
  refine callW_eq _ _ (f76 N z hl hl2) ?_
  simp (config := {implicitDefEqProofs := false, maxSteps := 4000000}) (disch := omega) only [push_cast, c55, Nat.reduceAdd, Nat.reduceSub, Nat.reduceMul, Nat.reduceBEq, Int.reduceToNat, Int.reduceNeg, Int.reduceLE, Int.reduceLT, Int.reduceBEq, Int.reduceBNe, Int.reduceEq, Bool.not_true, Bool.not_false, eq_self, reduceCtorEq]
  refine ⟨fun hv => vmB_false fun h => ?_, fun hv => ⟨fun hne => vmB_false fun h => hne h.ol, fun heq => ?_⟩⟩
  · rw [vldB_iff.2 h.v] at hv; cases hv
  have hV := vldB_iff.1 hv
  have hn := hV.n1
  refine callW_eq _ _ (f56 O z' ho 77 _ (fun row => !(decide (row.length = (N.getD 0 []).length) && belowB row 16)) (fun x hx => f77 x false N O z z' (by omega) (ho2 x hx)) (NoH.of rfl rfl)) ?_
  simp (config := {implicitDefEqProofs := false, maxSteps := 4000000}) (disch := omega) only [push_cast, c55, Nat.reduceAdd, Nat.reduceSub, Nat.reduceMul, Nat.reduceBEq, Int.reduceToNat, Int.reduceNeg, Int.reduceLE, Int.reduceLT, Int.reduceBEq, Int.reduceBNe, Int.reduceEq, Bool.not_true, Bool.not_false, eq_self, reduceCtorEq]
  rw [Bool.eq_iff_iff, vmB_iff]
  simp only [Bool.not_eq_true', List.any_eq_false, Bool.not_eq_true', Bool.not_eq_false, Bool.not_eq_true]
  constructor
  · intro h5
    refine ⟨hV, heq, fun r hr => ?_⟩
    have := h5 r hr
    simp only [Bool.not_eq_false', Bool.and_eq_true, decide_eq_true_eq, belowB_iff] at this
    exact this
  · intro hm r hr
    have := hm.orow r hr
    simp only [Bool.not_eq_false', Bool.and_eq_true, decide_eq_true_eq, belowB_iff]
    exact this
/- mizmaze/mizmazeref07.Auto -/
def c47 : VCfg := ⟨⟨[], [], [], [0, 1, 2, 3, 4, 5, 14, 17, 49, 57, 80]⟩, [(7, (.op 0 .loose (.op 1 .loose (.op 2 .loose (.op 3 .loose (.op 4 .loose (.op 5 .loose (.op 6 .loose (.op 7 .loose (.op 8 .loose (.op 9 .loose (.op 10 .loose (.op 11 .loose (.op 12 .loose (.op 13 .loose (.op 14 .loose (.op 15 .loose (.op 16 .loose (.op 17 .loose (.op 18 .loose (.op 19 .loose (.op 20 .loose (.op 21 .loose (.op 22 .loose (.op 23 .loose (.op 24 .loose (.op 25 .loose (.op 26 .loose (.op 27 .loose (.op 28 .loose (.op 29 .loose .nil)))))))))))))))))))))))))))))))], [], []⟩
theorem f47 (a : List (List Int)) (z : Bool) (hl : a.length ≤ 4611686018427387904) (hl2 : ∀ r ∈ a, r.length ≤ 4611686018427387904) :
    ACall Try.prog 47 [.agg [.pay (.rows a) z]] (fun r objs => r = .bool (vldB a) ∧ objs = []) := by
  refine acall_intro (tyP_ok _) c47 2000 [.tmp 2] Try.func47 rfl (by rfl) rfl (by kernel_rfl) ?_
  unfold Try.f47
  simp (config := {implicitDefEqProofs := false, maxSteps := 4000000}) (disch := omega) only [push_cast, c47, Nat.reduceAdd, Nat.reduceSub, Nat.reduceMul, Nat.reduceBEq, Int.reduceToNat, Int.reduceNeg, Int.reduceLE, Int.reduceLT, Int.reduceBEq, Int.reduceBNe, Int.reduceEq, Bool.not_true, Bool.not_false, eq_self, reduceCtorEq]
  refine ⟨fun h => vldB_false fun hv => by have := hv.n1; omega, fun h => ⟨fun h2 => vldB_false fun hv => by have := hv.n2; omega, fun h2 => ?_⟩⟩
  refine awp_upto (tyP_ok _) c47 2000 [1, 2, 3, 4] (a.length) (fun i => ∀ j, j < i → (1 ≤ (a.getD j []).length ∧ (a.getD j []).length ≤ 6) ∧ (a.getD j []).length = (a.getD 0 []).length ∧ belowB (a.getD j []) a.length = true) (fun i => ⟨81, [(1, .fref [.pay (.rows a) z]), (2, .bool false), (3, .int .i64 a.length), (4, .int .i64 i)], []⟩) (by kernel_rfl) ?_ ?_ ?_
  · simp (config := {implicitDefEqProofs := false, maxSteps := 4000000}) (disch := omega) only [push_cast, c47, Nat.reduceAdd, Nat.reduceSub, Nat.reduceMul, Nat.reduceBEq, Int.reduceToNat, Int.reduceNeg, Int.reduceLE, Int.reduceLT, Int.reduceBEq, Int.reduceBNe, Int.reduceEq, Bool.not_true, Bool.not_false, eq_self, reduceCtorEq]
  · exact fun j hj => by omega
  intro i hi hr
  simp (config := {implicitDefEqProofs := false, maxSteps := 4000000}) (disch := omega) only [push_cast, c47, Nat.reduceAdd, Nat.reduceSub, Nat.reduceMul, Nat.reduceBEq, Int.reduceToNat, Int.reduceNeg, Int.reduceLE, Int.reduceLT, Int.reduceBEq, Int.reduceBNe, Int.reduceEq, Bool.not_true, Bool.not_false, eq_self, reduceCtorEq]
  have bad : ∀ {Q : Prop}, i < a.length → (Vld a (a.getD 0 []).length → Q → False) → Q → false = vldB a := fun _ h hq => vldB_false fun hv => h hv hq
  refine ⟨fun hlt => ⟨hlt, bad hlt fun hv h => by have := (hv.row _ (getD_mem' hlt)).1; have := hv.k1; omega, fun h1 => ⟨hlt, bad hlt fun hv h => by have := (hv.row _ (getD_mem' hlt)).1; have := hv.k2; omega, fun h6 => ⟨hlt, by omega, bad hlt fun hv h => h (hv.row _ (getD_mem' hlt)).1, fun he => ?_⟩⟩⟩, fun hge => ?_⟩
  · refine awp_upto (tyP_ok _) c47 2000 [1, 2, 3, 4, 5] ((a.getD i []).length) (fun k => ∀ j, j < k → 0 ≤ (a.getD i []).getD j 0 ∧ (a.getD i []).getD j 0 < a.length) (fun k => ⟨81, [(1, .fref [.pay (.rows a) z]), (2, .bool false), (3, .int .i64 a.length), (4, .int .i64 i), (5, .int .i64 k)], []⟩) (by kernel_rfl) ?_ ?_ ?_
    · simp (config := {implicitDefEqProofs := false, maxSteps := 4000000}) (disch := omega) only [push_cast, c47, Nat.reduceAdd, Nat.reduceSub, Nat.reduceMul, Nat.reduceBEq, Int.reduceToNat, Int.reduceNeg, Int.reduceLE, Int.reduceLT, Int.reduceBEq, Int.reduceBNe, Int.reduceEq, Bool.not_true, Bool.not_false, eq_self, reduceCtorEq]
    · exact fun j hj => by omega
    intro k hk hrk
    have hil := hl2 _ (getD_mem' hlt)
    simp (config := {implicitDefEqProofs := false, maxSteps := 4000000}) (disch := omega) only [push_cast, c47, Nat.reduceAdd, Nat.reduceSub, Nat.reduceMul, Nat.reduceBEq, Int.reduceToNat, Int.reduceNeg, Int.reduceLE, Int.reduceLT, Int.reduceBEq, Int.reduceBNe, Int.reduceEq, Bool.not_true, Bool.not_false, eq_self, reduceCtorEq]
    have bad2 : k < (a.getD i []).length → (Q : Prop) → ((0 ≤ (a.getD i []).getD k 0 ∧ (a.getD i []).getD k 0 < a.length) → Q → False) → Q → false = vldB a := fun hk Q h hq => vldB_false fun hv => h ((hv.row _ (getD_mem' hlt)).2 _ (getD_mem hk)) hq
    refine ⟨hlt, fun hkl => ⟨hlt, hkl, bad2 hkl _ fun h1 h2 => by omega, fun h0 => ⟨hlt, hkl, bad2 hkl _ fun h1 h2 => by omega, fun h3 => ⟨hkl, upto_succ hrk ⟨h0, h3⟩⟩⟩⟩, fun hge => ⟨hlt, upto_succ hr ⟨⟨by omega, by omega⟩, he, belowB_iff.2 (all_of_getD (p := fun x => 0 ≤ x ∧ x < a.length) fun j hj => hrk j (by omega))⟩⟩⟩
  · have h0 := hr 0 (by omega)
    exact vldB_true (by omega) (by omega) (by omega) (by omega) fun j hj => (hr j (by omega)).2
/- mizmaze/mizmazeref07.Valid -/
def c14 : VCfg := ⟨⟨[], [], [], [0, 1, 2, 3, 4, 18, 23, 38, 46, 68]⟩, [(6, (.op 0 .loose (.op 1 .loose (.op 2 .loose (.op 3 .loose (.op 4 .loose (.op 5 .loose (.op 6 .loose (.op 7 .loose (.op 8 .loose (.op 9 .loose (.op 10 .loose (.op 11 .loose (.op 12 .loose .nil))))))))))))))], [], []⟩
theorem f14 (N O : List (List Int)) (z z' : Bool) (hl : N.length ≤ 4611686018427387904) (hl2 : ∀ r ∈ N, r.length ≤ 4611686018427387904) (ho : O.length ≤ 4611686018427387904) (ho2 : ∀ r ∈ O, r.length ≤ 4611686018427387904) :
    ACall Try.prog 14 [.agg [.pay (.rows (N)) (z), .pay (.rows (O)) (z')]] (fun r objs => r = .bool (vmB N O) ∧ objs = []) := by
  refine acall_intro (tyP_ok _) c14 2000 [.tmp 2] Try.func14 rfl (by rfl) rfl (by kernel_rfl) ?_
  unfold Try.f14
  simp (config := {implicitDefEqProofs := false, maxSteps := 4000000}) (disch := omega) only [push_cast, c14, Nat.reduceAdd, Nat.reduceSub, Nat.reduceMul, Nat.reduceBEq, Int.reduceToNat, Int.reduceNeg, Int.reduceLE, Int.reduceLT, Int.reduceBEq, Int.reduceBNe, Int.reduceEq, Bool.not_true, Bool.not_false, eq_self, reduceCtorEq]
  refine callW_eq _ _ (f47 N z hl hl2) ?_
  simp (config := {implicitDefEqProofs := false, maxSteps := 4000000}) (disch := omega) only [push_cast, c14, Nat.reduceAdd, Nat.reduceSub, Nat.reduceMul, Nat.reduceBEq, Int.reduceToNat, Int.reduceNeg, Int.reduceLE, Int.reduceLT, Int.reduceBEq, Int.reduceBNe, Int.reduceEq, Bool.not_true, Bool.not_false, eq_self, reduceCtorEq]
  refine ⟨fun hv => vmB_false fun h => ?_, fun hv => ⟨fun hne => vmB_false fun h => hne h.ol, fun heq => ?_⟩⟩
  · rw [vldB_iff.2 h.v] at hv; cases hv
  have hV := vldB_iff.1 hv
  have hn := hV.n1
  refine awp_upto (tyP_ok _) c14 2000 [1, 2, 3] (O.length) (fun i => ∀ j, j < i → (O.getD j []).length = (N.getD 0 []).length ∧ ∀ x ∈ O.getD j [], 0 ≤ x ∧ x < 16) (fun i => ⟨69, [(1, .fref [.pay (.rows N) z, .pay (.rows O) z']), (2, .bool false), (3, .int .i64 i)], []⟩) (by kernel_rfl) ?_ ?_ ?_
  · simp (config := {implicitDefEqProofs := false, maxSteps := 4000000}) (disch := omega) only [push_cast, c14, Nat.reduceAdd, Nat.reduceSub, Nat.reduceMul, Nat.reduceBEq, Int.reduceToNat, Int.reduceNeg, Int.reduceLE, Int.reduceLT, Int.reduceBEq, Int.reduceBNe, Int.reduceEq, Bool.not_true, Bool.not_false, eq_self, reduceCtorEq]
  · exact fun j hj => by omega
  intro i hi hr
  simp (config := {implicitDefEqProofs := false, maxSteps := 4000000}) (disch := omega) only [push_cast, c14, Nat.reduceAdd, Nat.reduceSub, Nat.reduceMul, Nat.reduceBEq, Int.reduceToNat, Int.reduceNeg, Int.reduceLE, Int.reduceLT, Int.reduceBEq, Int.reduceBNe, Int.reduceEq, Bool.not_true, Bool.not_false, eq_self, reduceCtorEq]
  refine ⟨fun hlt => ⟨hlt, by omega, ?_⟩, fun hge => ?_⟩
  · have hNi := (hV.row _ (getD_mem' (show i < N.length by omega))).1
    refine ⟨fun hne => vmB_false fun h => hne ?_, fun he => ?_⟩
    · rw [hNi]; exact (h.orow _ (getD_mem' hlt)).1
    refine awp_upto (tyP_ok _) c14 2000 [1, 2, 3, 4] ((O.getD i []).length) (fun k => ∀ j, j < k → 0 ≤ (O.getD i []).getD j 0 ∧ (O.getD i []).getD j 0 < 16) (fun k => ⟨69, [(1, .fref [.pay (.rows N) z, .pay (.rows O) z']), (2, .bool false), (3, .int .i64 i), (4, .int .i64 k)], []⟩) (by kernel_rfl) ?_ ?_ ?_
    · simp (config := {implicitDefEqProofs := false, maxSteps := 4000000}) (disch := omega) only [push_cast, c14, Nat.reduceAdd, Nat.reduceSub, Nat.reduceMul, Nat.reduceBEq, Int.reduceToNat, Int.reduceNeg, Int.reduceLE, Int.reduceLT, Int.reduceBEq, Int.reduceBNe, Int.reduceEq, Bool.not_true, Bool.not_false, eq_self, reduceCtorEq]
    · exact fun j hj => by omega
    intro k hk hrk
    have hil := ho2 _ (getD_mem' hlt)
    simp (config := {implicitDefEqProofs := false, maxSteps := 4000000}) (disch := omega) only [push_cast, c14, Nat.reduceAdd, Nat.reduceSub, Nat.reduceMul, Nat.reduceBEq, Int.reduceToNat, Int.reduceNeg, Int.reduceLE, Int.reduceLT, Int.reduceBEq, Int.reduceBNe, Int.reduceEq, Bool.not_true, Bool.not_false, eq_self, reduceCtorEq]
    have bad2 : k < (O.getD i []).length → (Q : Prop) → ((0 ≤ (O.getD i []).getD k 0 ∧ (O.getD i []).getD k 0 < 16) → Q → False) → Q → false = vmB N O := fun hk Q h hq => vmB_false fun hv => h ((hv.orow _ (getD_mem' hlt)).2 _ (getD_mem hk)) hq
    refine ⟨hlt, fun hkl => ⟨hlt, hkl, bad2 hkl _ fun h1 h2 => by omega, fun h0 => ⟨hlt, hkl, bad2 hkl _ fun h1 h2 => by omega, fun h3 => ⟨hkl, upto_succ hrk ⟨h0, h3⟩⟩⟩⟩, fun hge => ⟨hlt, upto_succ hr ⟨by omega, all_of_getD (p := fun x => 0 ≤ x ∧ x < 16) fun j hj => hrk j (by omega)⟩⟩⟩
  · refine vmB_true ⟨hV, heq, fun r hr' => ?_⟩
    obtain ⟨j, hj, rfl⟩ := List.getElem_of_mem hr'
    have := hr j (by omega)
    rwa [show O.getD j [] = O[j] by simp [hj]] at this
/- mizmaze/mizmazeref07.Letters -/
def c26 : VCfg := ⟨⟨[], [], [], [0, 1, 2]⟩, [], [], []⟩
theorem f26 (N O : List (List Int)) (z z' : Bool) (h : 0 < N.length) : ACall Try.prog 26 [.agg [.pay (.rows (N)) (z), .pay (.rows (O)) (z')]] (fun r objs => r = .int .i64 (N.getD 0 []).length ∧ objs = []) := by
  refine acall_intro (tyP_ok _) c26 2000 [.tmp 2] Try.func26 rfl (by rfl) rfl (by kernel_rfl) ?_
  unfold Try.f26
  simp (config := {implicitDefEqProofs := false, maxSteps := 4000000}) (disch := omega) only [push_cast, c26, Nat.reduceAdd, Nat.reduceSub, Nat.reduceMul, Nat.reduceBEq, Int.reduceToNat, Int.reduceNeg, Int.reduceLE, Int.reduceLT, Int.reduceBEq, Int.reduceBNe, Int.reduceEq, Bool.not_true, Bool.not_false, eq_self, reduceCtorEq]
  exact h
/- mizmaze/mizmazelaw07.wide -/
/- mizmaze/mizmazelaw07.Wide -/
/- mizmaze/mizmazeref07.Same -/
def c23 : VCfg := ⟨⟨[], [], [], [0, 1, 4, 5, 10, 14, 25]⟩, [(6, (.op 0 .loose (.op 1 .loose (.op 2 .loose (.op 3 .loose (.op 4 .loose (.op 5 .loose (.op 6 .loose (.op 7 .loose (.op 8 .loose .nil))))))))))], [], []⟩
theorem f23 (x y : List Int) (z z' : Bool) (hx : x.length ≤ 4611686018427387904) :
    ACall Try.prog 23 [.pay (.ints .i64 x) z, .pay (.ints .i64 y) z'] (fun r objs => r = .bool (decide (x = y)) ∧ objs = []) := by
  refine acall_intro (tyP_ok _) c23 2000 [.tmp 4] Try.func23 rfl (by rfl) rfl (by kernel_rfl) ?_
  unfold Try.f23
  simp (config := {implicitDefEqProofs := false, maxSteps := 4000000}) (disch := omega) only [push_cast, c23, Nat.reduceAdd, Nat.reduceSub, Nat.reduceMul, Nat.reduceBEq, Int.reduceToNat, Int.reduceNeg, Int.reduceLE, Int.reduceLT, Int.reduceBEq, Int.reduceBNe, Int.reduceEq, Bool.not_true, Bool.not_false, eq_self, reduceCtorEq]
  refine ⟨fun hne => ?_, fun heq => ?_⟩
  · have : x ≠ y := fun e => by subst e; simp at hne
    simp [this]
  refine awp_upto (tyP_ok _) c23 2000 [0, 1, 4, 5] (x.length) (fun i => ∀ j, j < i → x.getD j 0 = y.getD j 0) (fun i => ⟨26, [(0, .pay (.ints .i64 x) z), (1, .pay (.ints .i64 y) z'), (4, .bool false), (5, .int .i64 i)], []⟩) (by kernel_rfl) rfl ?_ ?_
  · exact fun j hj => by omega
  intro i hi hp
  simp (config := {implicitDefEqProofs := false, maxSteps := 4000000}) (disch := omega) only [push_cast, c23, Nat.reduceAdd, Nat.reduceSub, Nat.reduceMul, Nat.reduceBEq, Int.reduceToNat, Int.reduceNeg, Int.reduceLE, Int.reduceLT, Int.reduceBEq, Int.reduceBNe, Int.reduceEq, Bool.not_true, Bool.not_false, eq_self, reduceCtorEq]
  refine ⟨fun hlt => ⟨hlt, by omega, fun hne => ?_, fun he => ⟨hlt, upto_succ hp he⟩⟩, fun hge => ?_⟩
  · have : x ≠ y := fun e => hne (by rw [e])
    simp [this]
  · have : x = y := ints_eq' heq fun j hj => hp j (by omega)
    simp [this]
/- mizmaze/mizmazeref07.SameLists -/
/- mizmaze/mizmazelaw07.Two -/
/- mizmaze/mizmazeref07.Before -/
def c22 : VCfg := ⟨⟨[], [], [], [0, 1, 4, 5, 15, 26]⟩, [(4, (.op 0 .loose (.op 1 .loose (.op 2 .loose (.op 3 .loose (.op 4 .loose (.op 5 .loose (.op 6 .loose (.op 7 .loose (.op 8 .loose .nil)))))))))), (5, (.op 0 .loose (.op 1 .loose (.op 2 .loose (.op 3 .loose (.op 4 .loose (.op 5 .loose (.op 6 .loose (.op 7 .loose (.op 8 .loose (.op 9 .loose .nil)))))))))))], [], []⟩
theorem f22 (x y : List Int) (z z' : Bool) (hx : x.length ≤ 4611686018427387904) :
    ACall Try.prog 22 [.pay (.ints .i64 x) z, .pay (.ints .i64 y) z'] (fun r objs => r = .bool (befB x y) ∧ objs = []) := by
  refine acall_intro (tyP_ok _) c22 2000 [.tmp 4] Try.func22 rfl (by rfl) rfl (by kernel_rfl) ?_
  unfold Try.f22
  simp (config := {implicitDefEqProofs := false, maxSteps := 4000000}) (disch := omega) only [push_cast, c22, Nat.reduceAdd, Nat.reduceSub, Nat.reduceMul, Nat.reduceBEq, Int.reduceToNat, Int.reduceNeg, Int.reduceLE, Int.reduceLT, Int.reduceBEq, Int.reduceBNe, Int.reduceEq, Bool.not_true, Bool.not_false, eq_self, reduceCtorEq]
  refine awp_upto (tyP_ok _) c22 2000 [0, 1, 4, 5] (x.length) (fun i => i ≤ y.length ∧ ∀ j, j < i → x.getD j 0 = y.getD j 0) (fun i => ⟨41, [(0, .pay (.ints .i64 x) z), (1, .pay (.ints .i64 y) z'), (4, .bool false), (5, .int .i64 i)], []⟩) (by kernel_rfl) ?_ ?_ ?_
  · simp (config := {implicitDefEqProofs := false, maxSteps := 4000000}) (disch := omega) only [push_cast, c22, Nat.reduceAdd, Nat.reduceSub, Nat.reduceMul, Nat.reduceBEq, Int.reduceToNat, Int.reduceNeg, Int.reduceLE, Int.reduceLT, Int.reduceBEq, Int.reduceBNe, Int.reduceEq, Bool.not_true, Bool.not_false, eq_self, reduceCtorEq]
  · exact ⟨by omega, fun j hj => by omega⟩
  intro i hi hp
  simp (config := {implicitDefEqProofs := false, maxSteps := 4000000}) (disch := omega) only [push_cast, c22, Nat.reduceAdd, Nat.reduceSub, Nat.reduceMul, Nat.reduceBEq, Int.reduceToNat, Int.reduceNeg, Int.reduceLE, Int.reduceLT, Int.reduceBEq, Int.reduceBNe, Int.reduceEq, Bool.not_true, Bool.not_false, eq_self, reduceCtorEq]
  refine ⟨fun hlt => ⟨fun hly => ⟨hlt, hly, fun hne => ⟨hlt, hly, (befB_ne hp.2 hlt hly hne).symm⟩, fun he => ⟨hlt, by omega, upto_succ hp.2 he⟩⟩, fun hge => (befB_end hp.2 hi hp.1 (by omega)).symm⟩, fun hge => (befB_end hp.2 hi hp.1 (by omega)).symm⟩
end Go.AM
end

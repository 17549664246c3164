/-
  Contracts of the small functions of the top package, of what is made, and of minimal; conditions in each statement.
-/
import Derived.Test.YtdfocobojkmenaaS7
import Derived.Test.YtdfocobojkmenaaP9
set_option linter.unusedVariables false
set_option linter.unusedSimpArgs false
set_option linter.unusedSectionVars false
set_option linter.unnecessarySimpa false

/-! text Uk33 -/
section
namespace Go.AM
open Go Go.Proofs Go.Sort
/- mizmaze/mizmazetop.sameInts -/
def c40 : VCfg := ⟨⟨[], [], [], [0, 1, 4, 5, 10, 14, 25]⟩, [(6, (.op 0 .loose (.op 1 .loose (.op 2 .loose (.op 3 .loose (.op 4 .loose (.op 5 .loose (.op 6 .loose (.op 7 .loose (.op 8 .loose .nil))))))))))], [], []⟩
theorem f40 (x y : List Int) (z z' : Bool) (hx : x.length ≤ 4611686018427387904) :
    ACall Try.prog 40 [.pay (.ints .i64 x) z, .pay (.ints .i64 y) z'] (fun r objs => r = .bool (decide (x = y)) ∧ objs = []) := by
  refine acall_intro (tyP_ok _) c40 2000 [.tmp 4] Try.func40 rfl (by rfl) rfl (by kernel_rfl) ?_
  unfold Try.f40
  simp (config := {implicitDefEqProofs := false, maxSteps := 4000000}) (disch := omega) only [push_cast, c40, Nat.reduceAdd, Nat.reduceSub, Nat.reduceMul, Nat.reduceBEq, Int.reduceToNat, Int.reduceNeg, Int.reduceLE, Int.reduceLT, Int.reduceBEq, Int.reduceBNe, Int.reduceEq, Bool.not_true, Bool.not_false, eq_self, reduceCtorEq]
  refine ⟨fun hne => ?_, fun heq => ?_⟩
  · have : x ≠ y := fun e => by subst e; simp at hne
    simp [this]
  refine awp_upto (tyP_ok _) c40 2000 [0, 1, 4, 5] (x.length) (fun i => ∀ j, j < i → x.getD j 0 = y.getD j 0) (fun i => ⟨26, [(0, .pay (.ints .i64 x) z), (1, .pay (.ints .i64 y) z'), (4, .bool false), (5, .int .i64 i)], []⟩) (by kernel_rfl) rfl ?_ ?_
  · exact fun j hj => by omega
  intro i hi hp
  simp (config := {implicitDefEqProofs := false, maxSteps := 4000000}) (disch := omega) only [push_cast, c40, Nat.reduceAdd, Nat.reduceSub, Nat.reduceMul, Nat.reduceBEq, Int.reduceToNat, Int.reduceNeg, Int.reduceLE, Int.reduceLT, Int.reduceBEq, Int.reduceBNe, Int.reduceEq, Bool.not_true, Bool.not_false, eq_self, reduceCtorEq]
  refine ⟨fun hlt => ⟨hlt, by omega, fun hne => ?_, fun he => ⟨hlt, upto_succ hp he⟩⟩, fun hge => ?_⟩
  · have : x ≠ y := fun e => hne (by rw [e])
    simp [this]
  · have : x = y := ints_eq' heq fun j hj => hp j (by omega)
    simp [this]
/- mizmaze/mizmazetop.cycle -/
def c37 : VCfg := ⟨⟨[], [], [], [0, 1, 4]⟩, [], [], []⟩
theorem f37 (i n : Int) (hn : 0 < n) (hn2 : n ≤ 4611686018427387904) : ACall Try.prog 37 [.int .i64 i, .int .i64 n] (fun r objs => r = .int .i64 (i % n) ∧ objs = []) := by
  refine acall_intro (tyP_ok _) c37 2000 [.tmp 4] Try.func37 rfl (by rfl) rfl (by kernel_rfl) ?_
  unfold Try.f37
  simp (config := {implicitDefEqProofs := false, maxSteps := 4000000}) (disch := omega) only [push_cast, c37, Nat.reduceAdd, Nat.reduceSub, Nat.reduceMul, Nat.reduceBEq, Int.reduceToNat, Int.reduceNeg, Int.reduceLE, Int.reduceLT, Int.reduceBEq, Int.reduceBNe, Int.reduceEq, Bool.not_true, Bool.not_false, eq_self, reduceCtorEq]
  exact ⟨by omega, by omega, cyc hn hn2⟩
/- mizmaze/mizmazetop.tests -/
def c35 : VCfg := ⟨⟨[], [], [], [0, 1, 2]⟩, [], [], []⟩
set_option maxHeartbeats 4000000 in
set_option maxRecDepth 100000 in
theorem f35 : ACall Try.prog 35 [] (fun r objs => r = .bool true ∧ objs = []) := by
  refine acall_intro (tyP_ok _) c35 2000 [.tmp 0] Try.func35 rfl (by rfl) rfl (by kernel_rfl) ?_
  unfold Try.f35
  simp (config := {implicitDefEqProofs := false, maxSteps := 4000000}) (disch := omega) only [push_cast, c35, Nat.reduceAdd, Nat.reduceSub, Nat.reduceMul, Nat.reduceBEq, Int.reduceToNat, Int.reduceNeg, Int.reduceLE, Int.reduceLT, Int.reduceBEq, Int.reduceBNe, Int.reduceEq, Bool.not_true, Bool.not_false, eq_self, reduceCtorEq]
  refine callW_rel (f20 N2 O2 false false 0 (by decide) (by decide) (by decide) (by decide)) ?_
  rintro R O' ⟨l, e, nz2, h2, rfl, rfl⟩
  simp (config := {implicitDefEqProofs := false, maxSteps := 4000000}) (disch := omega) only [push_cast, c35, Nat.reduceAdd, Nat.reduceSub, Nat.reduceMul, Nat.reduceBEq, Int.reduceToNat, Int.reduceNeg, Int.reduceLE, Int.reduceLT, Int.reduceBEq, Int.reduceBNe, Int.reduceEq, Bool.not_true, Bool.not_false, eq_self, reduceCtorEq]
  obtain ⟨rfl, rfl⟩ := sui2 h2
  exact ⟨fun _ => rfl, fun h => absurd rfl h⟩
/- mizmaze/mizmazetop.outputs -/
def c41 : VCfg := ⟨⟨[], [], [7], [0, 1, 2, 3, 6, 7, 8, 12]⟩, [(5, (.op 0 .loose (.op 1 .strict (.op 2 .strict (.op 3 .strict (.op 4 .strict (.op 5 .strict (.op 6 .strict (.op 7 .strict (.op 8 .strict (.op 9 .strict (.op 10 .strict (.op 11 .strict (.op 12 .eff (.op 13 .eff (.op 14 .loose .nil)))))))))))))))), (6, (.op 0 .loose (.op 1 .loose (.op 2 .loose (.op 3 .loose (.op 4 .loose (.op 5 .loose (.op 6 .loose (.op 7 .loose (.op 8 .loose (.op 9 .loose (.op 10 .loose (.op 11 .loose .nil)))))))))))))], [], []⟩
set_option maxRecDepth 100000 in
theorem f41 (N O : List (List Int)) (z z' u : Bool) (s : Int) (w : List Int) (k : Nat) (hV : VM N O k) (hs : 0 ≤ s ∧ s < N.length) (hw : ∀ x ∈ w, 0 ≤ x ∧ x < k) (hl : w.length ≤ 1000000) :
    ACall Try.prog 41 [.agg [.pay (.rows (N)) (z), .pay (.rows (O)) (z')], .int .i64 s, .pay (.ints .i64 w) u] (fun r objs => ∃ nz, r = .pay (.ints .i64 (outsG N O s w)) nz ∧ objs = []) := by
  suffices h : ACall Try.prog 41 [.agg [.pay (.rows (N)) (z), .pay (.rows (O)) (z')], .int .i64 s, .pay (.ints .i64 w) u] (fun r objs => r = .own 0 ∧ objs = [.arr (.ints .i64 (outsG N O s w)) ⟨3, true⟩]) by
    refine h.frz ?_
    rintro r objs ⟨rfl, rfl⟩
    exact ⟨[0], _, 1, rfl, _, rfl, rfl⟩
  refine acall_intro (tyP_ok _) c41 2000 [.tmp 6] Try.func41 rfl (by rfl) rfl (by kernel_rfl) ?_
  unfold Try.f41
  simp (config := {implicitDefEqProofs := false, maxSteps := 4000000}) (disch := omega) only [push_cast, c41, Nat.reduceAdd, Nat.reduceSub, Nat.reduceMul, Nat.reduceBEq, Int.reduceToNat, Int.reduceNeg, Int.reduceLE, Int.reduceLT, Int.reduceBEq, Int.reduceBNe, Int.reduceEq, Bool.not_true, Bool.not_false, eq_self, reduceCtorEq]
  refine awp_upto (tyP_ok _) c41 2000 [1, 2, 3, 6, 7, 8] (w.length) (fun _ => True) (fun i => ⟨41, [(1, .int .i64 (leadG N s (w.take i))), (2, .pay (.ints .i64 w) u), (3, .fref [.pay (.rows N) z, .pay (.rows O) z']), (6, .pay (.ints .i64 []) true), (7, .own 0), (8, .int .i64 i)], [.arr (.ints .i64 (outsG N O s (w.take i))) ⟨3, true⟩]⟩) (by kernel_rfl) ?_ ?_ ?_
  · simp (config := {implicitDefEqProofs := false, maxSteps := 4000000}) (disch := omega) only [push_cast, c41, Nat.reduceAdd, Nat.reduceSub, Nat.reduceMul, Nat.reduceBEq, Int.reduceToNat, Int.reduceNeg, Int.reduceLE, Int.reduceLT, Int.reduceBEq, Int.reduceBNe, Int.reduceEq, Bool.not_true, Bool.not_false, eq_self, reduceCtorEq]
    first | done | exact ⟨rfl, rfl⟩ | rfl
  · trivial
  intro i hi _
  simp (config := {implicitDefEqProofs := false, maxSteps := 4000000}) (disch := omega) only [push_cast, c41, Nat.reduceAdd, Nat.reduceSub, Nat.reduceMul, Nat.reduceBEq, Int.reduceToNat, Int.reduceNeg, Int.reduceLE, Int.reduceLT, Int.reduceBEq, Int.reduceBNe, Int.reduceEq, Bool.not_true, Bool.not_false, eq_self, reduceCtorEq]
  refine ⟨fun hlt => ?_, fun hge => by rw [List.take_of_length_le hge]⟩
  have h1 := hV.v.lead (w.take i) hs.1 hs.2 fun c hc => hw c (List.mem_of_mem_take hc)
  have h2 := hw _ (getD_mem hlt)
  have h3 := (hV.v.row _ (getD_mem' (show (leadG N s (w.take i)).toNat < N.length by omega))).1
  have hol := hV.ol
  have h4 := (hV.orow _ (getD_mem' (show (leadG N s (w.take i)).toNat < O.length by omega))).1
  have h5 := outsG_len N O (w.take i) s
  rw [List.length_take] at h5
  refine ⟨⟨h1.1, by omega⟩, hlt, ⟨h2.1, by omega⟩, by omega, h1, hlt, ⟨h2.1, by omega⟩, hlt, ?_, (outsG_take N O s w i hlt).symm⟩
  rw [take_snoc hlt, leadG_snoc]
/- mizmaze/mizmazetop.right -/
def c42 : VCfg := ⟨⟨[], [], [], [0, 1, 2, 4, 5, 9, 28]⟩, [(4, (.op 0 .loose (.op 1 .loose (.op 2 .loose (.op 3 .loose (.op 4 .loose (.op 5 .loose (.op 6 .loose (.op 7 .loose (.op 8 .loose (.op 9 .loose (.op 10 .loose (.op 11 .loose (.op 12 .loose (.op 13 .loose (.op 14 .loose (.op 15 .loose (.op 16 .loose .nil))))))))))))))))))], [], []⟩
theorem f42 (a : List (List Int)) (z u : Bool) (w : List Int) (ha : 0 < a.length) (hl : w.length ≤ 4611686018427387904) :
    ACall Try.prog 42 [.agg [.pay (.rows a) z], .pay (.ints .i64 w) u] (fun r objs => r = .bool (wordB (a.getD 0 []).length w) ∧ objs = []) := by
  refine acall_intro (tyP_ok _) c42 2000 [.tmp 4] Try.func42 rfl (by rfl) rfl (by kernel_rfl) ?_
  unfold Try.f42
  simp (config := {implicitDefEqProofs := false, maxSteps := 4000000}) (disch := omega) only [push_cast, c42, Nat.reduceAdd, Nat.reduceSub, Nat.reduceMul, Nat.reduceBEq, Int.reduceToNat, Int.reduceNeg, Int.reduceLE, Int.reduceLT, Int.reduceBEq, Int.reduceBNe, Int.reduceEq, Bool.not_true, Bool.not_false, eq_self, reduceCtorEq]
  refine awp_upto (tyP_ok _) c42 2000 [1, 2, 4, 5] (w.length) (fun i => ∀ j, j < i → 0 ≤ w.getD j 0 ∧ w.getD j 0 < (a.getD 0 []).length) (fun i => ⟨32, [(1, .pay (.ints .i64 w) u), (2, .fref [.pay (.rows a) z]), (4, .bool false), (5, .int .i64 i)], []⟩) (by kernel_rfl) ?_ ?_ ?_
  · simp (config := {implicitDefEqProofs := false, maxSteps := 4000000}) (disch := omega) only [push_cast, c42, Nat.reduceAdd, Nat.reduceSub, Nat.reduceMul, Nat.reduceBEq, Int.reduceToNat, Int.reduceNeg, Int.reduceLE, Int.reduceLT, Int.reduceBEq, Int.reduceBNe, Int.reduceEq, Bool.not_true, Bool.not_false, eq_self, reduceCtorEq]
  · exact fun j hj => by omega
  intro i hi hr
  simp (config := {implicitDefEqProofs := false, maxSteps := 4000000}) (disch := omega) only [push_cast, c42, Nat.reduceAdd, Nat.reduceSub, Nat.reduceMul, Nat.reduceBEq, Int.reduceToNat, Int.reduceNeg, Int.reduceLE, Int.reduceLT, Int.reduceBEq, Int.reduceBNe, Int.reduceEq, Bool.not_true, Bool.not_false, eq_self, reduceCtorEq]
  refine ⟨fun hlt => ⟨hlt, fun h => (wordB_false (getD_mem hlt) (.inl h)).symm, fun h0 => ⟨hlt, ha, fun h => (wordB_false (getD_mem hlt) (.inr h)).symm, fun h => ⟨hlt, upto_succ hr ⟨h0, h⟩⟩⟩⟩, fun hge => ?_⟩
  rw [Bool.eq_iff_iff, decide_eq_true_eq, wordB_iff]
  refine ⟨fun h => ⟨by omega, fun x hx => ?_⟩, fun h => by omega⟩
  obtain ⟨j, hj, rfl⟩ := mem_of_getD (d := 0) hx
  exact hr j (by omega)
end Go.AM
end

/-! text Uk34 -/
section
namespace Go.AM
open Go Go.Proofs Go.Sort
/-- a word out of any numbers -/
def propW (k : Nat) (w : List Int) : List Int := (w.take 2000).map fun x => x % (k : Int)
theorem propW_mem {k : Nat} (hk : 0 < k) {w : List Int} : ∀ x ∈ propW k w, 0 ≤ x ∧ x < k := fun x hx => by
  obtain ⟨y, _, rfl⟩ := List.mem_map.1 hx
  exact ⟨Int.emod_nonneg _ (by omega), Int.emod_lt_of_pos _ (by omega)⟩
/- mizmaze/mizmazetop.proper -/
def c39 : VCfg := ⟨⟨[], [], [5], [0, 1, 2, 4, 5, 6, 14]⟩, [(5, (.op 0 .loose (.op 1 .strict (.op 2 .strict (.op 3 .strict (.op 4 .strict (.op 5 .strict (.op 6 .strict (.op 7 .strict (.op 8 .strict (.op 9 .strict (.op 10 .eff (.op 11 .eff (.op 12 .eff (.op 13 .loose .nil)))))))))))))))], [], []⟩
set_option maxHeartbeats 4000000 in
set_option maxRecDepth 100000 in
theorem f39 (a : List (List Int)) (z u : Bool) (w : List Int) (ha : 0 < a.length) (hk : 0 < (a.getD 0 []).length) (hk2 : (a.getD 0 []).length ≤ 6) (hl : w.length ≤ 4611686018427387904) :
    ACall Try.prog 39 [.agg [.pay (.rows a) z], .pay (.ints .i64 w) u] (fun r objs => ∃ nz, r = .pay (.ints .i64 (propW (a.getD 0 []).length w)) nz ∧ objs = []) := by
  suffices h : ACall Try.prog 39 [.agg [.pay (.rows a) z], .pay (.ints .i64 w) u] (fun r objs => r = .own 0 ∧ objs = [.arr (.ints .i64 (propW (a.getD 0 []).length w)) ⟨3, true⟩]) by
    refine h.frz ?_
    rintro r objs ⟨rfl, rfl⟩
    exact ⟨[0], _, 1, rfl, _, rfl, rfl⟩
  refine acall_intro (tyP_ok _) c39 2000 [.tmp 4] Try.func39 rfl (by rfl) rfl (by kernel_rfl) ?_
  unfold Try.f39
  simp (config := {implicitDefEqProofs := false, maxSteps := 4000000}) (disch := omega) only [push_cast, c39, Nat.reduceAdd, Nat.reduceSub, Nat.reduceMul, Nat.reduceBEq, Int.reduceToNat, Int.reduceNeg, Int.reduceLE, Int.reduceLT, Int.reduceBEq, Int.reduceBNe, Int.reduceEq, Bool.not_true, Bool.not_false, eq_self, reduceCtorEq]
  refine awp_upto (tyP_ok _) c39 2000 [1, 2, 4, 5, 6] (w.length) (fun i => i ≤ 2000) (fun i => ⟨31, [(1, .pay (.ints .i64 w) u), (2, .fref [.pay (.rows a) z]), (4, .pay (.ints .i64 []) true), (5, .own 0), (6, .int .i64 i)], [.arr (.ints .i64 ((w.take i).map fun x => x % ((a.getD 0 []).length : Int))) ⟨3, true⟩]⟩) (by kernel_rfl) ?_ ?_ ?_
  · simp (config := {implicitDefEqProofs := false, maxSteps := 4000000}) (disch := omega) only [push_cast, c39, Nat.reduceAdd, Nat.reduceSub, Nat.reduceMul, Nat.reduceBEq, Int.reduceToNat, Int.reduceNeg, Int.reduceLE, Int.reduceLT, Int.reduceBEq, Int.reduceBNe, Int.reduceEq, Bool.not_true, Bool.not_false, eq_self, reduceCtorEq]
    first | done | rfl
  · omega
  intro i hi hi2
  simp (config := {implicitDefEqProofs := false, maxSteps := 4000000}) (disch := omega) only [push_cast, c39, Nat.reduceAdd, Nat.reduceSub, Nat.reduceMul, Nat.reduceBEq, Int.reduceToNat, Int.reduceNeg, Int.reduceLE, Int.reduceLT, Int.reduceBEq, Int.reduceBNe, Int.reduceEq, Bool.not_true, Bool.not_false, eq_self, reduceCtorEq]
  refine ⟨fun hlt => ⟨fun h2 => ⟨hlt, ha, ?_⟩, fun h2 => ?_⟩, fun hge => ?_⟩
  · refine callW_rel (f37 (w.getD i 0) ((a.getD 0 []).length : Int) (by omega) (by omega)) ?_
    rintro R O' ⟨rfl, rfl⟩
    simp (config := {implicitDefEqProofs := false, maxSteps := 4000000}) (disch := omega) only [push_cast, c39, Nat.reduceAdd, Nat.reduceSub, Nat.reduceMul, Nat.reduceBEq, Int.reduceToNat, Int.reduceNeg, Int.reduceLE, Int.reduceLT, Int.reduceBEq, Int.reduceBNe, Int.reduceEq, Bool.not_true, Bool.not_false, eq_self, reduceCtorEq]
    refine ⟨by rw [List.length_map, List.length_take]; omega, hlt, by omega, ?_⟩
    rw [take_snoc hlt, List.map_append]; rfl
  · rw [propW, show i = 2000 by omega]
  · rw [propW, List.take_of_length_le (by omega), List.take_of_length_le (by omega)]
/- mizmaze/mizmazetop.valid -/
def c34 : VCfg := ⟨⟨[], [], [], [0, 1, 2, 3, 4, 5, 15, 25, 43, 46, 71]⟩, [(12, (.op 0 .loose (.op 1 .loose (.op 2 .loose (.op 3 .loose (.op 4 .loose (.op 5 .loose (.op 6 .loose (.op 7 .loose (.op 8 .loose (.op 9 .loose (.op 10 .loose (.op 11 .loose (.op 12 .loose (.op 13 .loose (.op 14 .loose (.op 15 .loose (.op 16 .loose (.op 17 .loose (.op 18 .loose (.op 19 .loose (.op 20 .loose (.op 21 .loose (.op 22 .loose .nil))))))))))))))))))))))))], [], []⟩
set_option maxHeartbeats 4000000 in
set_option maxRecDepth 100000 in
theorem f34 (a : List (List Int)) (z : Bool) (hl : a.length ≤ 4611686018427387904) (hl2 : ∀ r ∈ a, r.length ≤ 4611686018427387904) :
    ACall Try.prog 34 [.agg [.pay (.rows a) z]] (fun r objs => r = .bool (vldB a) ∧ objs = []) := by
  refine acall_intro (tyP_ok _) c34 2000 [.tmp 2] Try.func34 rfl (by rfl) rfl (by kernel_rfl) ?_
  unfold Try.f34
  simp (config := {implicitDefEqProofs := false, maxSteps := 4000000}) (disch := omega) only [push_cast, c34, Nat.reduceAdd, Nat.reduceSub, Nat.reduceMul, Nat.reduceBEq, Int.reduceToNat, Int.reduceNeg, Int.reduceLE, Int.reduceLT, Int.reduceBEq, Int.reduceBNe, Int.reduceEq, Bool.not_true, Bool.not_false, eq_self, reduceCtorEq]
  refine ⟨fun h => vldB_false fun hv => by have := hv.n1; omega, fun h1 => ⟨fun h => vldB_false fun hv => by have := hv.n2; omega, fun h2 => ⟨by omega, ?_⟩⟩⟩
  generalize hk : (a.getD 0 []).length = k at *
  refine awp_upto (tyP_ok _) c34 2000 [1, 2, 3, 4] (a.length) (fun i => ∀ j, j < i → (a.getD j []).length = k ∧ (1 ≤ k ∧ k ≤ 6) ∧ ∀ c, c < k → 0 ≤ (a.getD j []).getD c 0 ∧ (a.getD j []).getD c 0 < a.length) (fun i => ⟨72, [(1, .fref [.pay (.rows a) z]), (2, .bool false), (3, .int .i64 k), (4, .int .i64 i)], []⟩) (by kernel_rfl) ?_ ?_ ?_
  · simp (config := {implicitDefEqProofs := false, maxSteps := 4000000}) (disch := omega) only [push_cast, c34, Nat.reduceAdd, Nat.reduceSub, Nat.reduceMul, Nat.reduceBEq, Int.reduceToNat, Int.reduceNeg, Int.reduceLE, Int.reduceLT, Int.reduceBEq, Int.reduceBNe, Int.reduceEq, Bool.not_true, Bool.not_false, eq_self, reduceCtorEq]
  · exact fun j hj => by omega
  intro i hi hp
  simp (config := {implicitDefEqProofs := false, maxSteps := 4000000}) (disch := omega) only [push_cast, c34, Nat.reduceAdd, Nat.reduceSub, Nat.reduceMul, Nat.reduceBEq, Int.reduceToNat, Int.reduceNeg, Int.reduceLE, Int.reduceLT, Int.reduceBEq, Int.reduceBNe, Int.reduceEq, Bool.not_true, Bool.not_false, eq_self, reduceCtorEq]
  refine ⟨fun hlt => ⟨hlt, ?_⟩, fun hge => ?_⟩
  · have hmem : a.getD i [] ∈ a := by rw [List.getD_eq_getElem?_getD, List.getElem?_eq_getElem hlt]; exact List.getElem_mem _
    refine ⟨fun hne => vldB_false fun hv => hne (by have := (hv.row _ hmem).1; omega), fun hrl => ⟨fun hlo => vldB_false fun hv => by have := hv.k1; omega, fun hk1 => ⟨fun hhi => vldB_false fun hv => by have := hv.k2; omega, fun hk6 => ?_⟩⟩⟩
    refine awp_upto (tyP_ok _) c34 2000 [1, 2, 3, 4, 5] (k) (fun x => ∀ c, c < x → 0 ≤ (a.getD i []).getD c 0 ∧ (a.getD i []).getD c 0 < a.length) (fun x => ⟨72, [(1, .fref [.pay (.rows a) z]), (2, .bool false), (3, .int .i64 k), (4, .int .i64 i), (5, .int .i64 x)], []⟩) (by kernel_rfl) ?_ ?_ ?_
    · simp (config := {implicitDefEqProofs := false, maxSteps := 4000000}) (disch := omega) only [push_cast, c34, Nat.reduceAdd, Nat.reduceSub, Nat.reduceMul, Nat.reduceBEq, Int.reduceToNat, Int.reduceNeg, Int.reduceLE, Int.reduceLT, Int.reduceBEq, Int.reduceBNe, Int.reduceEq, Bool.not_true, Bool.not_false, eq_self, reduceCtorEq]
    · exact fun c hc => by omega
    intro x hx hr
    simp (config := {implicitDefEqProofs := false, maxSteps := 4000000}) (disch := omega) only [push_cast, c34, Nat.reduceAdd, Nat.reduceSub, Nat.reduceMul, Nat.reduceBEq, Int.reduceToNat, Int.reduceNeg, Int.reduceLE, Int.reduceLT, Int.reduceBEq, Int.reduceBNe, Int.reduceEq, Bool.not_true, Bool.not_false, eq_self, reduceCtorEq]
    have hmx := fun h : x < k => getD_mem (l := a.getD i []) (i := x) (by omega)
    refine ⟨fun hxk => ⟨hlt, by omega, fun h => vldB_false fun hv => by have := (hv.row _ hmem).2 _ (hmx hxk); omega, fun hge0 => ⟨hlt, by omega, fun h => vldB_false fun hv => by have := (hv.row _ hmem).2 _ (hmx hxk); omega, fun h => ⟨hxk, upto_succ hr ⟨hge0, h⟩⟩⟩⟩, fun hkx => ⟨hlt, upto_succ hp ⟨hrl, ⟨by omega, by omega⟩, fun c hc => hr c (by omega)⟩⟩⟩
  · symm
    rw [vldB_iff]
    have h0 := hp 0 (by omega)
    refine ⟨by omega, by omega, by rw [hk]; exact h0.2.1.1, by rw [hk]; exact h0.2.1.2, fun r hr => ?_⟩
    obtain ⟨p, hp1, rfl⟩ := mem_at hr
    obtain ⟨g1, _, g2⟩ := hp p (by omega)
    rw [hk]
    refine ⟨g1, fun x hx => ?_⟩
    obtain ⟨c, hc, rfl⟩ := mem_of_getD (d := 0) hx
    exact g2 c (by omega)
end Go.AM
end

/-! text Uk35 -/
section
namespace Go.AM
open Go Go.Proofs Go.Sort
/-- the outputs of a machine out of any numbers -/
def madeR (k : Nat) (outs : List Int) (s n : Nat) : List Int := (List.range n).map fun x : Nat => if s * k + x < outs.length then outs.getD (s * k + x) 0 % 3 else 0
def madeO (k : Nat) (outs : List Int) (n : Nat) : List (List Int) := (List.range n).map fun s => madeR k outs s k
/- mizmaze/mizmazetop.made -/
def c36 : VCfg := ⟨⟨[], [], [7], [0, 1, 2, 4, 5, 6, 7, 8, 9, 10, 18, 28, 44]⟩, [], [], []⟩
set_option maxHeartbeats 4000000 in
set_option maxRecDepth 100000 in
theorem f36 (a : List (List Int)) (z u : Bool) (outs : List Int) (k : Nat) (hV : Vld a k) (hl : outs.length ≤ 4611686018427387904) :
    ACall Try.prog 36 [.agg [.pay (.rows a) z], .pay (.ints .i64 outs) u] (fun r objs => ∃ nz, r = .agg [.pay (.rows (a)) (z), .pay (.rows (madeO k outs a.length)) (nz)] ∧ objs = []) := by
  suffices h : ACall Try.prog 36 [.agg [.pay (.rows a) z], .pay (.ints .i64 outs) u] (fun r objs => r = .agg [.pay (.rows a) z, .own 0] ∧ objs = [.arr (.rows (madeO k outs a.length)) ⟨37, true⟩]) by
    refine h.frz ?_
    rintro r objs ⟨rfl, rfl⟩
    exact ⟨[0], _, 1, rfl, _, rfl, rfl⟩
  have hn1 := hV.n1
  have hn2 := hV.n2
  have hk2 := hV.k2
  refine acall_intro (tyP_ok _) c36 2000 [.cell 4 24] Try.func36 rfl (by rfl) rfl (by kernel_rfl) ?_
  unfold Try.f36
  simp (config := {implicitDefEqProofs := false, maxSteps := 4000000}) (disch := omega) only [push_cast, c36, Nat.reduceAdd, Nat.reduceSub, Nat.reduceMul, Nat.reduceBEq, Int.reduceToNat, Int.reduceNeg, Int.reduceLE, Int.reduceLT, Int.reduceBEq, Int.reduceBNe, Int.reduceEq, Bool.not_true, Bool.not_false, eq_self, reduceCtorEq]
  refine awp_virt (i := 1) (c := 1) (p := .rows []) 37 rfl rfl rfl ?_
  refine awp_upto (tyP_ok _) c36 2000 [1, 2, 4, 5, 6] (a.length) (fun _ => True) (fun s => ⟨61, [(1, .pay (.ints .i64 outs) u), (2, .fref [.pay (.rows a) z]), (4, .ref 0 0), (5, .ref 1 0), (6, .int .i64 s)], [.box [.lit (.slice none 0 0), .lit (.slice none 0 0)], .box [.pay (.rows a) z, .own 2], .arr (.rows (madeO k outs s)) ⟨37, true⟩]⟩) (by kernel_rfl) ?_ ?_ ?_
  · simp (config := {implicitDefEqProofs := false, maxSteps := 4000000}) (disch := omega) only [push_cast, c36, Nat.reduceAdd, Nat.reduceSub, Nat.reduceMul, Nat.reduceBEq, Int.reduceToNat, Int.reduceNeg, Int.reduceLE, Int.reduceLT, Int.reduceBEq, Int.reduceBNe, Int.reduceEq, Bool.not_true, Bool.not_false, eq_self, reduceCtorEq]
    first | done | rfl | exact ⟨rfl, rfl⟩
  · trivial
  intro s hs _
  have hml : (madeO k outs s).length = s := by simp [madeO]
  simp (config := {implicitDefEqProofs := false, maxSteps := 4000000}) (disch := omega) only [push_cast, c36, Nat.reduceAdd, Nat.reduceSub, Nat.reduceMul, Nat.reduceBEq, Int.reduceToNat, Int.reduceNeg, Int.reduceLE, Int.reduceLT, Int.reduceBEq, Int.reduceBNe, Int.reduceEq, Bool.not_true, Bool.not_false, eq_self, reduceCtorEq]
  refine ⟨fun hlt => ?_, fun hge => ?_⟩
  · have hrl := (hV.row _ (getD_mem' hlt)).1
    refine awp_upto (tyP_ok _) c36 2000 [1, 2, 4, 5, 6, 7, 8] (k) (fun _ => True) (fun x => ⟨61, [(1, .pay (.ints .i64 outs) u), (2, .fref [.pay (.rows a) z]), (4, .ref 0 0), (5, .ref 1 0), (6, .int .i64 s), (7, .own 2), (8, .int .i64 x)], [.box [.lit (.slice none 0 0), .lit (.slice none 0 0)], .box [.pay (.rows a) z, .own 3], .arr (.ints .i64 (madeR k outs s x)) ⟨3, true⟩, .arr (.rows (madeO k outs s)) ⟨37, true⟩]⟩) (by kernel_rfl) ?_ ?_ ?_
    · simp (config := {implicitDefEqProofs := false, maxSteps := 4000000}) (disch := omega) only [push_cast, c36, Nat.reduceAdd, Nat.reduceSub, Nat.reduceMul, Nat.reduceBEq, Int.reduceToNat, Int.reduceNeg, Int.reduceLE, Int.reduceLT, Int.reduceBEq, Int.reduceBNe, Int.reduceEq, Bool.not_true, Bool.not_false, eq_self, reduceCtorEq]
      first | done | exact ⟨rfl, rfl⟩ | rfl
    · trivial
    intro x hx _
    have hrl2 : (madeR k outs s x).length = x := by simp [madeR]
    have hsk : s * k ≤ 60 * 6 := Nat.mul_le_mul (by omega) hk2
    have e1 : (s : Int) * (k : Int) = ((s * k : Nat) : Int) := by push_cast; rfl
    have e2 : IntKind.i64.wrap (IntKind.i64.wrap ((s : Int) * (k : Int)) + (x : Int)) = ((s * k + x : Nat) : Int) := by
      rw [e1, wrap_nat (n := ((s * k : Nat) : Int)) (by omega) (by omega)]
      exact wrap_nat (by omega) (by omega)
    have hst : madeR k outs s (x + 1) = madeR k outs s x ++ [if s * k + x < outs.length then outs.getD (s * k + x) 0 % 3 else 0] := by simp [madeR, List.range_succ]
    simp (config := {implicitDefEqProofs := false, maxSteps := 4000000}) (disch := omega) only [push_cast, c36, hrl, Nat.reduceAdd, Nat.reduceSub, Nat.reduceMul, Nat.reduceBEq, Int.reduceToNat, Int.reduceNeg, Int.reduceLE, Int.reduceLT, Int.reduceBEq, Int.reduceBNe, Int.reduceEq, Bool.not_true, Bool.not_false, eq_self, reduceCtorEq]
    have e3 : (s : Int) * (k : Int) + (x : Int) = ((s * k + x : Nat) : Int) := by rw [e1]; push_cast; rfl
    rw [e3]
    refine ⟨hlt, fun hxk => ⟨hlt, fun hin => ⟨⟨by omega, hin⟩, ?_⟩, fun hout => ?_⟩, fun hkx => ?_⟩
    · refine callW_rel (f37 _ 3 (by omega) (by omega)) ?_
      rintro R O' ⟨rfl, rfl⟩
      simp (config := {implicitDefEqProofs := false, maxSteps := 4000000}) (disch := omega) only [push_cast, c36, hrl, Nat.reduceAdd, Nat.reduceSub, Nat.reduceMul, Nat.reduceBEq, Int.reduceToNat, Int.reduceNeg, Int.reduceLE, Int.reduceLT, Int.reduceBEq, Int.reduceBNe, Int.reduceEq, Bool.not_true, Bool.not_false, eq_self, reduceCtorEq]
      refine ⟨by omega, hxk, ?_⟩
      rw [hst, if_pos (by omega), e3, Int.toNat_natCast]
    · rw [hst, if_neg (by omega)]
      exact ⟨by omega, hxk, rfl⟩
    · refine ⟨by omega, hlt, ?_⟩
      have : x = k := by omega
      subst this
      simp [madeO, List.range_succ]
  · rw [show s = a.length by omega]
theorem madeR_len {k s n : Nat} {outs : List Int} : (madeR k outs s n).length = n := by simp [madeR]
theorem madeO_len {k n : Nat} {outs : List Int} : (madeO k outs n).length = n := by simp [madeO]
theorem madeR_mem {k s n : Nat} {outs : List Int} : ∀ y ∈ madeR k outs s n, 0 ≤ y ∧ y < 16 := fun y hy => by
  obtain ⟨x, _, rfl⟩ := List.mem_map.1 hy
  split
  · exact ⟨Int.emod_nonneg _ (by omega), by have := Int.emod_lt_of_pos (outs.getD (s * k + x) 0) (show (0 : Int) < 3 by omega); omega⟩
  · omega
/-- what is made is a machine -/
theorem made_vm {a : List (List Int)} {k : Nat} {outs : List Int} (hV : Vld a k) : VM a (madeO k outs a.length) k := by
  refine ⟨hV, madeO_len, fun r hr => ?_⟩
  obtain ⟨s, _, rfl⟩ := List.mem_map.1 hr
  exact ⟨madeR_len, madeR_mem⟩
end Go.AM
end

/-! text Uk36 -/
section
namespace Go.AM
open Go Go.Proofs Go.Sort
/- mizmaze/mizmazetop.minimal -/
def c38 : VCfg := ⟨⟨[], [], [], [0, 1, 2, 3, 4, 5, 6, 7, 8, 9, 10, 11, 12, 33, 38, 43, 49, 62, 105, 115, 120, 131, 136]⟩, [(1, (.op 0 .loose (.op 1 .loose (.op 2 .loose (.op 3 .loose (.op 4 .loose (.op 5 .loose (.op 6 .loose (.op 7 .loose (.op 8 .loose (.op 9 .loose .nil))))))))))), (19, (.op 0 .loose (.op 1 .loose (.op 2 .loose (.op 3 .loose (.op 4 .loose (.op 5 .loose (.op 6 .loose (.op 7 .loose (.op 8 .loose (.op 9 .loose (.op 10 .loose (.op 11 .loose (.op 12 .loose (.op 13 .loose (.op 14 .loose (.op 15 .loose (.op 16 .loose (.op 17 .loose (.op 18 .loose (.op 19 .loose (.op 20 .loose (.op 21 .loose (.op 22 .loose (.op 23 .loose (.op 24 .loose (.op 25 .loose (.op 26 .loose (.op 27 .loose (.op 28 .loose (.op 29 .loose (.op 30 .loose (.op 31 .loose (.op 32 .loose (.op 33 .loose (.op 34 .loose (.op 35 .loose (.op 36 .loose (.op 37 .loose (.op 38 .loose (.op 39 .loose (.op 40 .loose .nil))))))))))))))))))))))))))))))))))))))))))], [], []⟩
set_option maxHeartbeats 4000000 in
set_option maxRecDepth 100000 in
theorem f38 (N O : List (List Int)) (z z' : Bool) (k : Nat) (hV : VM N O k) (hn6 : N.length ≤ 6) :
    ACall Try.prog 38 [.agg [.pay (.rows (N)) (z), .pay (.rows (O)) (z')]] (fun r objs => r = .bool (fitB N O) ∧ objs = []) := by
  have hn1 := hV.v.n1
  have hk := hV.k0
  have hk2 := hV.v.k2
  have hol := hV.ol
  refine acall_intro (tyP_ok _) c38 2000 [.tmp 2] Try.func38 rfl (by rfl) rfl (by kernel_rfl) ?_
  unfold Try.f38
  simp (config := {implicitDefEqProofs := false, maxSteps := 4000000}) (disch := omega) only [push_cast, c38, Nat.reduceAdd, Nat.reduceSub, Nat.reduceMul, Nat.reduceBEq, Int.reduceToNat, Int.reduceNeg, Int.reduceLE, Int.reduceLT, Int.reduceBEq, Int.reduceBNe, Int.reduceEq, Bool.not_true, Bool.not_false, eq_self, reduceCtorEq]
  have hnn : N.length * N.length ≤ 36 := Nat.le_trans (Nat.mul_le_mul hn6 hn6) (by omega)
  have e0 : (N.length : Int) * (N.length : Int) = ((N.length * N.length : Nat) : Int) := by push_cast; rfl
  have e1 : IntKind.i64.wrap ((N.length : Int) * (N.length : Int)) = ((N.length * N.length : Nat) : Int) := by
    rw [e0]; exact wrap_nat (by omega) (by omega)
  rw [e1, Int.toNat_natCast, hk]
  refine ⟨hn1, ⟨by omega, by omega, by omega⟩, ⟨by omega, by omega⟩, by simp; omega, ?_⟩
  have hB : ∀ p, p < N.length → ∀ q, q < N.length → p * N.length + q < N.length * N.length := fun p hp q hq => by
    have : (p + 1) * N.length ≤ N.length * N.length := Nat.mul_le_mul_right _ hp
    rw [Nat.add_mul] at this
    omega
  have hW : ∀ p : Nat, p < N.length → ∀ q : Nat, q < N.length → IntKind.i64.wrap (IntKind.i64.wrap ((p : Int) * (N.length : Int)) + (q : Int)) = ((p * N.length + q : Nat) : Int) := fun p hp q hq => by
    have := hB p hp q hq
    have e : (p : Int) * (N.length : Int) = ((p * N.length : Nat) : Int) := by push_cast; rfl
    rw [e, wrap_nat (n := ((p * N.length : Nat) : Int)) (by omega) (by omega)]
    exact wrap_nat (by omega) (by omega)
  refine awp_upd (tyP_ok _) c38 2000 [1, 2, 3, 4, 5, 6, 7] (N.length * N.length) (fun _ => True) (fun t => [(7, .int .i64 t)]) (fun t => [(0, .arr (.bools (mtA N O k t)) ⟨4, false⟩), (1, .arr (.bools (mtM N k t)) ⟨4, false⟩)]) (by kernel_rfl) rfl ?_ ?_
  · trivial
  intro t ht _
  simp (config := {implicitDefEqProofs := false, maxSteps := 4000000}) (disch := omega) only [push_cast, c38, e1, Nat.reduceAdd, Nat.reduceSub, Nat.reduceMul, Nat.reduceBEq, Int.reduceToNat, Int.reduceNeg, Int.reduceLE, Int.reduceLT, Int.reduceBEq, Int.reduceBNe, Int.reduceEq, Bool.not_true, Bool.not_false, eq_self, reduceCtorEq]
  refine ⟨fun hlt => ?_, fun hge => ?_⟩
  · generalize hA : mtA N O k t = A
    generalize hM : mtM N k t = M
    have hAl : A.length = N.length * N.length := by rw [← hA]; exact mtA_len t
    have hMl : M.length = N.length := by rw [← hM]; exact mtM_len t
    refine awp_upd (tyP_ok _) c38 2000 [1, 2, 3, 4, 5, 6, 7, 8] (N.length) (fun _ => True) (fun p => [(8, .int .i64 p)]) (fun p => [(0, .arr (.bools (mpA N O k A p)) ⟨4, false⟩), (1, .arr (.bools (mpM N k M p)) ⟨4, false⟩)]) (by kernel_rfl) rfl ?_ ?_
    · trivial
    intro p hp _
    simp (config := {implicitDefEqProofs := false, maxSteps := 4000000}) (disch := omega) only [push_cast, c38, Nat.reduceAdd, Nat.reduceSub, Nat.reduceMul, Nat.reduceBEq, Int.reduceToNat, Int.reduceNeg, Int.reduceLE, Int.reduceLT, Int.reduceBEq, Int.reduceBNe, Int.reduceEq, Bool.not_true, Bool.not_false, eq_self, reduceCtorEq]
    refine ⟨fun hpn => ?_, fun hge => ?_⟩
    · generalize hA1 : mpA N O k A p = A1
      generalize hM1 : mpM N k M p = M1
      have hAl1 : A1.length = N.length * N.length := by rw [← hA1, mpA_len]; exact hAl
      have hMl1 : M1.length = N.length := by rw [← hM1, mpM_len]; exact hMl
      refine awp_upd (tyP_ok _) c38 2000 [1, 2, 3, 4, 5, 6, 7, 8, 9] (k) (fun _ => True) (fun x => [(9, .int .i64 x)]) (fun x => [(0, .arr (.bools (mxA N O p A1 x)) ⟨4, false⟩), (1, .arr (.bools (mxM N p M1 x)) ⟨4, false⟩)]) (by kernel_rfl) rfl ?_ ?_
      · trivial
      intro x hx _
      have hMx := mxM_len (N := N) (p := p) (M := M1) x
      simp (config := {implicitDefEqProofs := false, maxSteps := 4000000}) (disch := omega) only [push_cast, c38, Nat.reduceAdd, Nat.reduceSub, Nat.reduceMul, Nat.reduceBEq, Int.reduceToNat, Int.reduceNeg, Int.reduceLE, Int.reduceLT, Int.reduceBEq, Int.reduceBNe, Int.reduceEq, Bool.not_true, Bool.not_false, eq_self, reduceCtorEq]
      have hrow := (hV.v.row _ (getD_mem' hpn)).1
      have hnx := fun (s : Nat) (hs : s < N.length) (hx : x < k) => hV.nx (s := (s : Int)) (c := x) (by omega) (by omega) hx
      generalize hA2 : mxA N O p A1 x = A2
      have hAl2 : A2.length = N.length * N.length := by rw [← hA2, mxA_len]; exact hAl1
      refine ⟨fun hxk => ⟨by omega, fun hm => ⟨hpn, by omega, by have := hnx p hpn hxk; rw [nxG, Int.toNat_natCast, Int.toNat_natCast] at this; omega, ?_⟩, fun hm => ?_⟩, fun hge => ?_⟩
      · refine awp_upd (tyP_ok _) c38 2000 [1, 2, 3, 4, 5, 6, 7, 8, 9, 10] (N.length) (fun _ => True) (fun q => [(10, .int .i64 q)]) (fun q => [(0, .arr (.bools (mqA N O p x A2 q)) ⟨4, false⟩)]) (by kernel_rfl) rfl ?_ ?_
        · trivial
        intro q hq _
        have hAl3 := mqA_len (N := N) (O := O) (p := p) (x := x) (A := A2) q
        simp (config := {implicitDefEqProofs := false, maxSteps := 4000000}) (disch := omega) only [push_cast, c38, Nat.reduceAdd, Nat.reduceSub, Nat.reduceMul, Nat.reduceBEq, Int.reduceToNat, Int.reduceNeg, Int.reduceLE, Int.reduceLT, Int.reduceBEq, Int.reduceBNe, Int.reduceEq, Bool.not_true, Bool.not_false, eq_self, reduceCtorEq]
        refine ⟨fun hqn => ?_, fun hge => ?_⟩
        · have hcol := (hV.v.row _ (getD_mem' hqn)).1
          have o1 := (hV.orow _ (getD_mem' (show p < O.length by omega))).1
          have o2 := (hV.orow _ (getD_mem' (show q < O.length by omega))).1
          have n1 := hnx p hpn hxk
          have n2 := hnx q hqn hxk
          rw [nxG, Int.toNat_natCast, Int.toNat_natCast] at n1 n2
          have w1 := hW p hpn q hqn
          have b1 := hB p hpn q hqn
          have d1 : ((ntf N p x : Nat) : Int) = (N.getD p []).getD x 0 := by simp only [ntf, nxG, Int.toNat_natCast]; omega
          have d2 : ((ntf N q x : Nat) : Int) = (N.getD q []).getD x 0 := by simp only [ntf, nxG, Int.toNat_natCast]; omega
          have w2 := hW (ntf N p x) (by omega) (ntf N q x) (by omega)
          have b2 := hB (ntf N p x) (by omega) (ntf N q x) (by omega)
          rw [d1, d2] at w2
          have e5 : mqA N O p x A2 (q + 1) = if (O.getD p []).getD x 0 ≠ (O.getD q []).getD x 0 ∨ (mqA N O p x A2 q).getD (ntf N p x * N.length + ntf N q x) false = true then (mqA N O p x A2 q).set (p * N.length + q) true else mqA N O p x A2 q := rfl
          rw [w1, w2, Int.toNat_natCast, Int.toNat_natCast, hAl3, e5]
          refine ⟨by omega, by omega, by omega, by omega, fun hne => ⟨by omega, hqn, by rw [if_pos (.inl hne)]⟩, fun he => ⟨hpn, by omega, hqn, by omega, by omega, fun ht => ⟨by omega, hqn, by rw [if_pos (.inr ht)]⟩, fun hf => ⟨hqn, ?_⟩⟩⟩
          rw [if_neg]
          rintro (h | h)
          · exact h he
          · rw [hf] at h; cases h
        · obtain rfl : q = N.length := by omega
          refine ⟨hxk, by rw [← hA2]; rfl, ?_⟩
          show _ = (if (mxM N p M1 x).getD p false = true then (mxM N p M1 x).set (ntf N p x) true else mxM N p M1 x : List Bool)
          rw [if_pos hm]; simp only [ntf, nxG, Int.toNat_natCast]
      · refine awp_upd (tyP_ok _) c38 2000 [1, 2, 3, 4, 5, 6, 7, 8, 9, 10] (N.length) (fun _ => True) (fun q => [(10, .int .i64 q)]) (fun q => [(0, .arr (.bools (mqA N O p x A2 q)) ⟨4, false⟩)]) (by kernel_rfl) rfl ?_ ?_
        · trivial
        intro q hq _
        have hAl3 := mqA_len (N := N) (O := O) (p := p) (x := x) (A := A2) q
        simp (config := {implicitDefEqProofs := false, maxSteps := 4000000}) (disch := omega) only [push_cast, c38, Nat.reduceAdd, Nat.reduceSub, Nat.reduceMul, Nat.reduceBEq, Int.reduceToNat, Int.reduceNeg, Int.reduceLE, Int.reduceLT, Int.reduceBEq, Int.reduceBNe, Int.reduceEq, Bool.not_true, Bool.not_false, eq_self, reduceCtorEq]
        refine ⟨fun hqn => ?_, fun hge => ?_⟩
        · have hcol := (hV.v.row _ (getD_mem' hqn)).1
          have o1 := (hV.orow _ (getD_mem' (show p < O.length by omega))).1
          have o2 := (hV.orow _ (getD_mem' (show q < O.length by omega))).1
          have n1 := hnx p hpn hxk
          have n2 := hnx q hqn hxk
          rw [nxG, Int.toNat_natCast, Int.toNat_natCast] at n1 n2
          have w1 := hW p hpn q hqn
          have b1 := hB p hpn q hqn
          have d1 : ((ntf N p x : Nat) : Int) = (N.getD p []).getD x 0 := by simp only [ntf, nxG, Int.toNat_natCast]; omega
          have d2 : ((ntf N q x : Nat) : Int) = (N.getD q []).getD x 0 := by simp only [ntf, nxG, Int.toNat_natCast]; omega
          have w2 := hW (ntf N p x) (by omega) (ntf N q x) (by omega)
          have b2 := hB (ntf N p x) (by omega) (ntf N q x) (by omega)
          rw [d1, d2] at w2
          have e5 : mqA N O p x A2 (q + 1) = if (O.getD p []).getD x 0 ≠ (O.getD q []).getD x 0 ∨ (mqA N O p x A2 q).getD (ntf N p x * N.length + ntf N q x) false = true then (mqA N O p x A2 q).set (p * N.length + q) true else mqA N O p x A2 q := rfl
          rw [w1, w2, Int.toNat_natCast, Int.toNat_natCast, hAl3, e5]
          refine ⟨by omega, by omega, by omega, by omega, fun hne => ⟨by omega, hqn, by rw [if_pos (.inl hne)]⟩, fun he => ⟨hpn, by omega, hqn, by omega, by omega, fun ht => ⟨by omega, hqn, by rw [if_pos (.inr ht)]⟩, fun hf => ⟨hqn, ?_⟩⟩⟩
          rw [if_neg]
          rintro (h | h)
          · exact h he
          · rw [hf] at h; cases h
        · obtain rfl : q = N.length := by omega
          refine ⟨hxk, by rw [← hA2]; rfl, ?_⟩
          show _ = (if (mxM N p M1 x).getD p false = true then (mxM N p M1 x).set (ntf N p x) true else mxM N p M1 x : List Bool)
          rw [if_neg (by rw [hm]; simp)]
      · obtain rfl : x = k := by omega
        exact ⟨hpn, by rw [← hA2, ← hA1]; rfl, by rw [← hM1]; rfl⟩
    · obtain rfl : p = N.length := by omega
      exact ⟨by omega, by rw [← hA]; rfl, by rw [← hM]; rfl⟩
  · generalize hA : mtA N O k t = A
    generalize hM : mtM N k t = M
    have hAl : A.length = N.length * N.length := by rw [← hA]; exact mtA_len t
    have hMl : M.length = N.length := by rw [← hM]; exact mtM_len t
    have htN : N.length ≤ t := by
      have : N.length * 1 ≤ N.length * N.length := Nat.mul_le_mul_left _ hn1
      omega
    have hfit := fit_iff hV htN
    rw [hA, hM] at hfit
    have hfB : fitB N O = (allC N k && decide (cntT N O k = N.length)) := by rw [fitB, hk]
    rw [← hfB] at hfit
    refine awp_upd (tyP_ok _) c38 2000 [1, 2, 3, 4, 5, 6, 11] (N.length) (fun p => ∀ p', p' < p → M.getD p' false = true ∧ ∀ q, q < p' → A.getD (p' * N.length + q) false = true) (fun p => [(11, .int .i64 p)]) (fun p => []) (by kernel_rfl) rfl ?_ ?_
    · exact fun p' h => by omega
    intro p hp hr
    simp (config := {implicitDefEqProofs := false, maxSteps := 4000000}) (disch := omega) only [push_cast, c38, Nat.reduceAdd, Nat.reduceSub, Nat.reduceMul, Nat.reduceBEq, Int.reduceToNat, Int.reduceNeg, Int.reduceLE, Int.reduceLT, Int.reduceBEq, Int.reduceBNe, Int.reduceEq, Bool.not_true, Bool.not_false, eq_self, reduceCtorEq]
    refine ⟨fun hpn => ?_, fun hge2 => ?_⟩
    · refine awp_upd (tyP_ok _) c38 2000 [1, 2, 3, 4, 5, 6, 11, 12] (p) (fun q => ∀ q', q' < q → A.getD (p * N.length + q') false = true) (fun q => [(12, .int .i64 q)]) (fun q => []) (by kernel_rfl) rfl ?_ ?_
      · exact fun q' h => by omega
      intro q hq hs
      simp (config := {implicitDefEqProofs := false, maxSteps := 4000000}) (disch := omega) only [push_cast, c38, Nat.reduceAdd, Nat.reduceSub, Nat.reduceMul, Nat.reduceBEq, Int.reduceToNat, Int.reduceNeg, Int.reduceLE, Int.reduceLT, Int.reduceBEq, Int.reduceBNe, Int.reduceEq, Bool.not_true, Bool.not_false, eq_self, reduceCtorEq]
      refine ⟨fun hqp => ?_, fun hqp => ?_⟩
      · have w1 := hW p hpn q (by omega)
        have b1 := hB p hpn q (by omega)
        rw [w1, Int.toNat_natCast, hAl]
        refine ⟨by omega, fun hf => ?_, fun ht => ⟨hqp, upto_succ hs ht⟩⟩
        cases hx : fitB N O with
        | false => rfl
        | true =>
          have := (hfit.1 hx).2 p q hpn hqp
          rw [hf] at this; cases this
      · refine ⟨by omega, fun hf => ?_, fun ht => ⟨hpn, upto_succ hr ⟨ht, fun q' h => hs q' (by omega)⟩⟩⟩
        cases hx : fitB N O with
        | false => rfl
        | true =>
          have := (hfit.1 hx).1 p hpn
          rw [hf] at this; cases this
    · exact (hfit.2 ⟨fun p hp => (hr p (by omega)).1, fun p q hp hq => (hr p (by omega)).2 q hq⟩).symm
end Go.AM
end

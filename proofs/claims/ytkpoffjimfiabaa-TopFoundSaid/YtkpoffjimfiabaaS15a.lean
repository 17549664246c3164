/-
  Contracts of small functions of the top package; conditions in each statement.
-/
import Derived.Test.YtkpoffjimfiabaaS8a
set_option linter.unusedVariables false
set_option linter.unusedSimpArgs false
set_option linter.unusedSectionVars false
set_option linter.unnecessarySimpa false

section
namespace Go.AM
open Go Go.Proofs Go.Sort
def c40 : VCfg := ⟨⟨[], [], [], [0, 1, 4, 5, 10, 14, 25]⟩, [(6, (.op 0 .loose (.op 1 .loose (.op 2 .loose (.op 3 .loose (.op 4 .loose (.op 5 .loose (.op 6 .loose (.op 7 .loose (.op 8 .loose .nil))))))))))], [], []⟩
theorem f40 (x y : List Int) (z z' : Bool) (hx : x.length ≤ 4611686018427387904) :
  ACall Try.prog 40 [.pay (.ints .i64 x) z, .pay (.ints .i64 y) z'] (fun r objs => r = .bool (decide (x = y)) ∧ objs = []) := by
 refine acall_intro (tyP_ok _) c40 2000 [.tmp 4] Try.func40 rfl (by rfl) rfl (by kernel_rfl) ?_
 unfold Try.f40
 simp -implicitDefEqProofs (maxSteps := 4000000) (disch := omega) only [push_cast, c40, Nat.reduceAdd, Nat.reduceSub, Nat.reduceMul, Nat.reduceBEq, Int.reduceToNat, Int.reduceNeg, Int.reduceLE, Int.reduceLT, Int.reduceBEq, Int.reduceBNe, Int.reduceEq, eq_self, reduceCtorEq]
 refine ⟨fun hne => ?_, fun heq => ?_⟩
 ·have : x ≠ y := fun e => by subst e; simp at hne
  simp [this]
 refine awp_upto (tyP_ok _) c40 2000 [0, 1, 4, 5] (x.length) (fun i => ∀ j, j < i → x.getD j 0 = y.getD j 0) (fun i => ⟨26, [(0, .pay (.ints .i64 x) z), (1, .pay (.ints .i64 y) z'), (4, .bool false), (5, .int .i64 i)], []⟩) (by kernel_rfl) rfl ?_ ?_
 ·exact fun j hj => by omega
 intro i hi hp
 simp -implicitDefEqProofs (maxSteps := 4000000) (disch := omega) only [push_cast, c40, Nat.reduceAdd, Nat.reduceSub, Nat.reduceMul, Nat.reduceBEq, Int.reduceToNat, Int.reduceNeg, Int.reduceLE, Int.reduceLT, Int.reduceBEq, Int.reduceBNe, Int.reduceEq, eq_self, reduceCtorEq]
 refine ⟨fun hlt => ⟨hlt, by omega, fun hne => ?_, fun he => ⟨hlt, upto_succ hp he⟩⟩, fun hge => ?_⟩
 ·have : x ≠ y := fun e => hne (by rw [e])
  simp [this]
 ·have : x = y := ints_eq' heq fun j hj => hp j (by omega)
  simp [this]
def c36 : VCfg := ⟨⟨[], [], [], [0, 1, 4]⟩, [], [], []⟩
theorem f36 (i n : Int) (hn : 0 < n) (hn2 : n ≤ 4611686018427387904) : ACall Try.prog 36 [.int .i64 i, .int .i64 n] (fun r objs => r = .int .i64 (i % n) ∧ objs = []) := by
 refine acall_intro (tyP_ok _) c36 2000 [.tmp 4] Try.func36 rfl (by rfl) rfl (by kernel_rfl) ?_
 unfold Try.f36
 simp -implicitDefEqProofs (maxSteps := 4000000) (disch := omega) only [push_cast, c36, Nat.reduceAdd, Nat.reduceSub, Nat.reduceMul, Nat.reduceBEq, Int.reduceToNat, Int.reduceNeg, Int.reduceLE, Int.reduceLT, Int.reduceBEq, Int.reduceBNe, Int.reduceEq, eq_self, reduceCtorEq]
 exact ⟨by omega, by omega, cyc hn hn2⟩
def c41 : VCfg := ⟨⟨[], [], [7], [0, 1, 2, 3, 6, 7, 8, 12]⟩, [(5, (.op 0 .loose (.op 1 .strict (.op 2 .strict (.op 3 .strict (.op 4 .strict (.op 5 .strict (.op 6 .strict (.op 7 .strict (.op 8 .strict (.op 9 .strict (.op 10 .strict (.op 11 .strict (.op 12 .eff (.op 13 .eff (.op 14 .loose .nil)))))))))))))))), (6, (.op 0 .loose (.op 1 .loose (.op 2 .loose (.op 3 .loose (.op 4 .loose (.op 5 .loose (.op 6 .loose (.op 7 .loose (.op 8 .loose (.op 9 .loose (.op 10 .loose (.op 11 .loose .nil)))))))))))))], [], []⟩
set_option maxRecDepth 100000 in
theorem f41 (N O : List (List Int)) (z z' u : Bool) (s : Int) (w : List Int) (k : Nat) (hV : VM N O k) (hs : 0 ≤ s ∧ s < N.length) (hw : ∀ x ∈ w, 0 ≤ x ∧ x < k) (hl : w.length ≤ 1000000) :
  ACall Try.prog 41 [.agg [.pay (.rows (N)) (z), .pay (.rows (O)) (z')], .int .i64 s, .pay (.ints .i64 w) u] (fun r objs => ∃ nz, r = .pay (.ints .i64 (outsG N O s w)) nz ∧ objs = []) := by
 suffices h : ACall Try.prog 41 [.agg [.pay (.rows (N)) (z), .pay (.rows (O)) (z')], .int .i64 s, .pay (.ints .i64 w) u] (fun r objs => r = .own 0 ∧ objs = [.arr (.ints .i64 (outsG N O s w)) ⟨3, true⟩]) by
  refine h.frz ?_
  rintro r objs ⟨rfl, rfl⟩
  exact ⟨[0], _, 1, rfl, _, rfl, rfl⟩
 refine acall_intro (tyP_ok _) c41 2000 [.tmp 6] Try.func41 rfl (by rfl) rfl (by kernel_rfl) ?_
 unfold Try.f41
 simp -implicitDefEqProofs (maxSteps := 4000000) (disch := omega) only [push_cast, c41, Nat.reduceAdd, Nat.reduceSub, Nat.reduceMul, Nat.reduceBEq, Int.reduceToNat, Int.reduceNeg, Int.reduceLE, Int.reduceLT, Int.reduceBEq, Int.reduceBNe, Int.reduceEq, eq_self, reduceCtorEq]
 refine awp_upto (tyP_ok _) c41 2000 [1, 2, 3, 6, 7, 8] (w.length) (fun _ => True) (fun i => ⟨41, [(1, .int .i64 (leadG N s (w.take i))), (2, .pay (.ints .i64 w) u), (3, .fref [.pay (.rows N) z, .pay (.rows O) z']), (6, .pay (.ints .i64 []) true), (7, .own 0), (8, .int .i64 i)], [.arr (.ints .i64 (outsG N O s (w.take i))) ⟨3, true⟩]⟩) (by kernel_rfl) ?_ ?_ ?_
 ·simp -implicitDefEqProofs (maxSteps := 4000000) (disch := omega) only [push_cast, c41, Nat.reduceAdd, Nat.reduceSub, Nat.reduceMul, Nat.reduceBEq, Int.reduceToNat, Int.reduceNeg, Int.reduceLE, Int.reduceLT, Int.reduceBEq, Int.reduceBNe, Int.reduceEq, eq_self, reduceCtorEq]
  first | done | exact ⟨rfl, rfl⟩ | rfl
 ·trivial
 intro i hi _
 simp -implicitDefEqProofs (maxSteps := 4000000) (disch := omega) only [push_cast, c41, Nat.reduceAdd, Nat.reduceSub, Nat.reduceMul, Nat.reduceBEq, Int.reduceToNat, Int.reduceNeg, Int.reduceLE, Int.reduceLT, Int.reduceBEq, Int.reduceBNe, Int.reduceEq, eq_self, reduceCtorEq]
 refine ⟨fun hlt => ?_, fun hge => by rw [List.take_of_length_le hge]⟩
 have h1 := hV.v.lead (w.take i) hs.1 hs.2 fun c hc => hw c (List.mem_of_mem_take hc)
 have h2 := hw _ (getD_mem hlt)
 have h3 := (hV.v.row _ (getD_mem' (show (leadG N s (w.take i)).toNat < N.length by omega))).1
 have hol := hV.ol
 have h4 := (hV.orow _ (getD_mem' (show (leadG N s (w.take i)).toNat < O.length by omega))).1
 have h5 := outsG_len N O (w.take i) s
 rw [List.length_take] at h5
 refine ⟨⟨h1.1, by omega⟩, hlt, ⟨h2.1, by omega⟩, by omega, h1, hlt, ⟨h2.1, by omega⟩, hlt, ?_, (outsG_take N O s w i hlt).symm⟩
 rw [take_snoc hlt, leadG_snoc]
def c39 : VCfg := ⟨⟨[], [], [], [0, 1, 2, 4, 5, 9, 28]⟩, [(4, (.op 0 .loose (.op 1 .loose (.op 2 .loose (.op 3 .loose (.op 4 .loose (.op 5 .loose (.op 6 .loose (.op 7 .loose (.op 8 .loose (.op 9 .loose (.op 10 .loose (.op 11 .loose (.op 12 .loose (.op 13 .loose (.op 14 .loose (.op 15 .loose (.op 16 .loose .nil))))))))))))))))))], [], []⟩
theorem f39 (a : List (List Int)) (z u : Bool) (w : List Int) (ha : 0 < a.length) (hl : w.length ≤ 4611686018427387904) :
  ACall Try.prog 39 [.agg [.pay (.rows a) z], .pay (.ints .i64 w) u] (fun r objs => r = .bool (wordB (a.getD 0 []).length w) ∧ objs = []) := by
 refine acall_intro (tyP_ok _) c39 2000 [.tmp 4] Try.func39 rfl (by rfl) rfl (by kernel_rfl) ?_
 unfold Try.f39
 simp -implicitDefEqProofs (maxSteps := 4000000) (disch := omega) only [push_cast, c39, Nat.reduceAdd, Nat.reduceSub, Nat.reduceMul, Nat.reduceBEq, Int.reduceToNat, Int.reduceNeg, Int.reduceLE, Int.reduceLT, Int.reduceBEq, Int.reduceBNe, Int.reduceEq, eq_self, reduceCtorEq]
 refine awp_upto (tyP_ok _) c39 2000 [1, 2, 4, 5] (w.length) (fun i => ∀ j, j < i → 0 ≤ w.getD j 0 ∧ w.getD j 0 < (a.getD 0 []).length) (fun i => ⟨32, [(1, .pay (.ints .i64 w) u), (2, .fref [.pay (.rows a) z]), (4, .bool false), (5, .int .i64 i)], []⟩) (by kernel_rfl) ?_ ?_ ?_
 ·simp -implicitDefEqProofs (maxSteps := 4000000) (disch := omega) only [push_cast, c39, Nat.reduceAdd, Nat.reduceSub, Nat.reduceMul, Nat.reduceBEq, Int.reduceToNat, Int.reduceNeg, Int.reduceLE, Int.reduceLT, Int.reduceBEq, Int.reduceBNe, Int.reduceEq, eq_self, reduceCtorEq]
 ·exact fun j hj => by omega
 intro i hi hr
 simp -implicitDefEqProofs (maxSteps := 4000000) (disch := omega) only [push_cast, c39, Nat.reduceAdd, Nat.reduceSub, Nat.reduceMul, Nat.reduceBEq, Int.reduceToNat, Int.reduceNeg, Int.reduceLE, Int.reduceLT, Int.reduceBEq, Int.reduceBNe, Int.reduceEq, eq_self, reduceCtorEq]
 refine ⟨fun hlt => ⟨hlt, fun h => (wordB_false (getD_mem hlt) (.inl h)).symm, fun h0 => ⟨hlt, ha, fun h => (wordB_false (getD_mem hlt) (.inr h)).symm, fun h => ⟨hlt, upto_succ hr ⟨h0, h⟩⟩⟩⟩, fun hge => ?_⟩
 rw [Bool.eq_iff_iff, decide_eq_true_eq, wordB_iff]
 refine ⟨fun h => ⟨by omega, fun x hx => ?_⟩, fun h => by omega⟩
 obtain ⟨j, hj, rfl⟩ := mem_of_getD (d := 0) hx
 exact hr j (by omega)
end Go.AM
end

section
namespace Go.AM
open Go Go.Proofs Go.Sort
def propW (k : Nat) (w : List Int) : List Int := (w.take 2000).map fun x => x % (k : Int)
theorem propW_mem {k : Nat} (hk : 0 < k) {w : List Int} : ∀ x ∈ propW k w, 0 ≤ x ∧ x < k := fun x hx => by
 obtain ⟨y, _, rfl⟩ := List.mem_map.1 hx
 exact ⟨Int.emod_nonneg _ (by omega), Int.emod_lt_of_pos _ (by omega)⟩
def c37 : VCfg := ⟨⟨[], [], [5], [0, 1, 2, 4, 5, 6, 14]⟩, [(5, (.op 0 .loose (.op 1 .strict (.op 2 .strict (.op 3 .strict (.op 4 .strict (.op 5 .strict (.op 6 .strict (.op 7 .strict (.op 8 .strict (.op 9 .strict (.op 10 .eff (.op 11 .eff (.op 12 .eff (.op 13 .loose .nil)))))))))))))))], [], []⟩
set_option maxHeartbeats 4000000 in
set_option maxRecDepth 100000 in
theorem f37 (a : List (List Int)) (z u : Bool) (w : List Int) (ha : 0 < a.length) (hk : 0 < (a.getD 0 []).length) (hk2 : (a.getD 0 []).length ≤ 6) (hl : w.length ≤ 4611686018427387904) :
  ACall Try.prog 37 [.agg [.pay (.rows a) z], .pay (.ints .i64 w) u] (fun r objs => ∃ nz, r = .pay (.ints .i64 (propW (a.getD 0 []).length w)) nz ∧ objs = []) := by
 suffices h : ACall Try.prog 37 [.agg [.pay (.rows a) z], .pay (.ints .i64 w) u] (fun r objs => r = .own 0 ∧ objs = [.arr (.ints .i64 (propW (a.getD 0 []).length w)) ⟨3, true⟩]) by
  refine h.frz ?_
  rintro r objs ⟨rfl, rfl⟩
  exact ⟨[0], _, 1, rfl, _, rfl, rfl⟩
 refine acall_intro (tyP_ok _) c37 2000 [.tmp 4] Try.func37 rfl (by rfl) rfl (by kernel_rfl) ?_
 unfold Try.f37
 simp -implicitDefEqProofs (maxSteps := 4000000) (disch := omega) only [push_cast, c37, Nat.reduceAdd, Nat.reduceSub, Nat.reduceMul, Nat.reduceBEq, Int.reduceToNat, Int.reduceNeg, Int.reduceLE, Int.reduceLT, Int.reduceBEq, Int.reduceBNe, Int.reduceEq, eq_self, reduceCtorEq]
 refine awp_upto (tyP_ok _) c37 2000 [1, 2, 4, 5, 6] (w.length) (fun i => i ≤ 2000) (fun i => ⟨31, [(1, .pay (.ints .i64 w) u), (2, .fref [.pay (.rows a) z]), (4, .pay (.ints .i64 []) true), (5, .own 0), (6, .int .i64 i)], [.arr (.ints .i64 ((w.take i).map fun x => x % ((a.getD 0 []).length : Int))) ⟨3, true⟩]⟩) (by kernel_rfl) ?_ ?_ ?_
 ·simp -implicitDefEqProofs (maxSteps := 4000000) (disch := omega) only [push_cast, c37, Nat.reduceAdd, Nat.reduceSub, Nat.reduceMul, Nat.reduceBEq, Int.reduceToNat, Int.reduceNeg, Int.reduceLE, Int.reduceLT, Int.reduceBEq, Int.reduceBNe, Int.reduceEq, eq_self, reduceCtorEq]
  first | done | rfl
 ·omega
 intro i hi hi2
 simp -implicitDefEqProofs (maxSteps := 4000000) (disch := omega) only [push_cast, c37, Nat.reduceAdd, Nat.reduceSub, Nat.reduceMul, Nat.reduceBEq, Int.reduceToNat, Int.reduceNeg, Int.reduceLE, Int.reduceLT, Int.reduceBEq, Int.reduceBNe, Int.reduceEq, eq_self, reduceCtorEq]
 refine ⟨fun hlt => ⟨fun h2 => ⟨hlt, ha, ?_⟩, fun h2 => ?_⟩, fun hge => ?_⟩
 ·refine callW_rel (f36 (w.getD i 0) ((a.getD 0 []).length : Int) (by omega) (by omega)) ?_
  rintro R O' ⟨rfl, rfl⟩
  simp -implicitDefEqProofs (maxSteps := 4000000) (disch := omega) only [push_cast, c37, Nat.reduceAdd, Nat.reduceSub, Nat.reduceMul, Nat.reduceBEq, Int.reduceToNat, Int.reduceNeg, Int.reduceLE, Int.reduceLT, Int.reduceBEq, Int.reduceBNe, Int.reduceEq, eq_self, reduceCtorEq]
  refine ⟨by rw [List.length_map, List.length_take]; omega, hlt, by omega, ?_⟩
  rw [take_snoc hlt, List.map_append]; rfl
 ·rw [propW, show i = 2000 by omega]
 ·rw [propW, List.take_of_length_le (by omega), List.take_of_length_le (by omega)]
def c33 : VCfg := ⟨⟨[], [], [], [0, 1, 2, 3, 4, 5, 15, 25, 43, 46, 71]⟩, [(12, (.op 0 .loose (.op 1 .loose (.op 2 .loose (.op 3 .loose (.op 4 .loose (.op 5 .loose (.op 6 .loose (.op 7 .loose (.op 8 .loose (.op 9 .loose (.op 10 .loose (.op 11 .loose (.op 12 .loose (.op 13 .loose (.op 14 .loose (.op 15 .loose (.op 16 .loose (.op 17 .loose (.op 18 .loose (.op 19 .loose (.op 20 .loose (.op 21 .loose (.op 22 .loose .nil))))))))))))))))))))))))], [], []⟩
set_option maxHeartbeats 4000000 in
set_option maxRecDepth 100000 in
theorem f33 (a : List (List Int)) (z : Bool) (hl : a.length ≤ 4611686018427387904) (hl2 : ∀ r ∈ a, r.length ≤ 4611686018427387904) :
  ACall Try.prog 33 [.agg [.pay (.rows a) z]] (fun r objs => r = .bool (vldB a) ∧ objs = []) := by
 refine acall_intro (tyP_ok _) c33 2000 [.tmp 2] Try.func33 rfl (by rfl) rfl (by kernel_rfl) ?_
 unfold Try.f33
 simp -implicitDefEqProofs (maxSteps := 4000000) (disch := omega) only [push_cast, c33, Nat.reduceAdd, Nat.reduceSub, Nat.reduceMul, Nat.reduceBEq, Int.reduceToNat, Int.reduceNeg, Int.reduceLE, Int.reduceLT, Int.reduceBEq, Int.reduceBNe, Int.reduceEq, eq_self, reduceCtorEq]
 refine ⟨fun h => vldB_false fun hv => by have := hv.n1; omega, fun h1 => ⟨fun h => vldB_false fun hv => by have := hv.n2; omega, fun h2 => ⟨by omega, ?_⟩⟩⟩
 generalize hk : (a.getD 0 []).length = k at *
 refine awp_upto (tyP_ok _) c33 2000 [1, 2, 3, 4] (a.length) (fun i => ∀ j, j < i → (a.getD j []).length = k ∧ (1 ≤ k ∧ k ≤ 6) ∧ ∀ c, c < k → 0 ≤ (a.getD j []).getD c 0 ∧ (a.getD j []).getD c 0 < a.length) (fun i => ⟨72, [(1, .fref [.pay (.rows a) z]), (2, .bool false), (3, .int .i64 k), (4, .int .i64 i)], []⟩) (by kernel_rfl) ?_ ?_ ?_
 ·simp -implicitDefEqProofs (maxSteps := 4000000) (disch := omega) only [push_cast, c33, Nat.reduceAdd, Nat.reduceSub, Nat.reduceMul, Nat.reduceBEq, Int.reduceToNat, Int.reduceNeg, Int.reduceLE, Int.reduceLT, Int.reduceBEq, Int.reduceBNe, Int.reduceEq, eq_self, reduceCtorEq]
 ·exact fun j hj => by omega
 intro i hi hp
 simp -implicitDefEqProofs (maxSteps := 4000000) (disch := omega) only [push_cast, c33, Nat.reduceAdd, Nat.reduceSub, Nat.reduceMul, Nat.reduceBEq, Int.reduceToNat, Int.reduceNeg, Int.reduceLE, Int.reduceLT, Int.reduceBEq, Int.reduceBNe, Int.reduceEq, eq_self, reduceCtorEq]
 refine ⟨fun hlt => ⟨hlt, ?_⟩, fun hge => ?_⟩
 ·have hmem : a.getD i [] ∈ a := by rw [List.getD_eq_getElem?_getD, List.getElem?_eq_getElem hlt]; exact List.getElem_mem _
  refine ⟨fun hne => vldB_false fun hv => hne (by have := (hv.row _ hmem).1; omega), fun hrl => ⟨fun hlo => vldB_false fun hv => by have := hv.k1; omega, fun hk1 => ⟨fun hhi => vldB_false fun hv => by have := hv.k2; omega, fun hk6 => ?_⟩⟩⟩
  refine awp_upto (tyP_ok _) c33 2000 [1, 2, 3, 4, 5] (k) (fun x => ∀ c, c < x → 0 ≤ (a.getD i []).getD c 0 ∧ (a.getD i []).getD c 0 < a.length) (fun x => ⟨72, [(1, .fref [.pay (.rows a) z]), (2, .bool false), (3, .int .i64 k), (4, .int .i64 i), (5, .int .i64 x)], []⟩) (by kernel_rfl) ?_ ?_ ?_
  ·simp -implicitDefEqProofs (maxSteps := 4000000) (disch := omega) only [push_cast, c33, Nat.reduceAdd, Nat.reduceSub, Nat.reduceMul, Nat.reduceBEq, Int.reduceToNat, Int.reduceNeg, Int.reduceLE, Int.reduceLT, Int.reduceBEq, Int.reduceBNe, Int.reduceEq, eq_self, reduceCtorEq]
  ·exact fun c hc => by omega
  intro x hx hr
  simp -implicitDefEqProofs (maxSteps := 4000000) (disch := omega) only [push_cast, c33, Nat.reduceAdd, Nat.reduceSub, Nat.reduceMul, Nat.reduceBEq, Int.reduceToNat, Int.reduceNeg, Int.reduceLE, Int.reduceLT, Int.reduceBEq, Int.reduceBNe, Int.reduceEq, eq_self, reduceCtorEq]
  have hmx := fun h : x < k => getD_mem (l := a.getD i []) (i := x) (by omega)
  refine ⟨fun hxk => ⟨hlt, by omega, fun h => vldB_false fun hv => by have := (hv.row _ hmem).2 _ (hmx hxk); omega, fun hge0 => ⟨hlt, by omega, fun h => vldB_false fun hv => by have := (hv.row _ hmem).2 _ (hmx hxk); omega, fun h => ⟨hxk, upto_succ hr ⟨hge0, h⟩⟩⟩⟩, fun hkx => ⟨hlt, upto_succ hp ⟨hrl, ⟨by omega, by omega⟩, fun c hc => hr c (by omega)⟩⟩⟩
 ·symm
  rw [vldB_iff]
  have h0 := hp 0 (by omega)
  refine ⟨by omega, by omega, by rw [hk]; exact h0.2.1.1, by rw [hk]; exact h0.2.1.2, fun r hr => ?_⟩
  obtain ⟨p, hp1, rfl⟩ := mem_at hr
  obtain ⟨g1, _, g2⟩ := hp p (by omega)
  rw [hk]
  refine ⟨g1, fun x hx => ?_⟩
  obtain ⟨c, hc, rfl⟩ := mem_of_getD (d := 0) hx
  exact g2 c (by omega)
end Go.AM
end

section
namespace Go.AM
open Go Go.Proofs Go.Sort
def madeR (k : Nat) (outs : List Int) (s n : Nat) : List Int := (List.range n).map fun x : Nat => if s * k + x < outs.length then outs.getD (s * k + x) 0 % 3 else 0
def madeO (k : Nat) (outs : List Int) (n : Nat) : List (List Int) := (List.range n).map fun s => madeR k outs s k
def c35 : VCfg := ⟨⟨[], [], [7], [0, 1, 2, 4, 5, 6, 7, 8, 9, 10, 18, 28, 44]⟩, [], [], []⟩
set_option maxHeartbeats 4000000 in
set_option maxRecDepth 100000 in
theorem f35 (a : List (List Int)) (z u : Bool) (outs : List Int) (k : Nat) (hV : Vld a k) (hl : outs.length ≤ 4611686018427387904) :
  ACall Try.prog 35 [.agg [.pay (.rows a) z], .pay (.ints .i64 outs) u] (fun r objs => ∃ nz, r = .agg [.pay (.rows (a)) (z), .pay (.rows (madeO k outs a.length)) (nz)] ∧ objs = []) := by
 suffices h : ACall Try.prog 35 [.agg [.pay (.rows a) z], .pay (.ints .i64 outs) u] (fun r objs => r = .agg [.pay (.rows a) z, .own 0] ∧ objs = [.arr (.rows (madeO k outs a.length)) ⟨25, true⟩]) by
  refine h.frz ?_
  rintro r objs ⟨rfl, rfl⟩
  exact ⟨[0], _, 1, rfl, _, rfl, rfl⟩
 have hn1 := hV.n1
 have hn2 := hV.n2
 have hk2 := hV.k2
 refine acall_intro (tyP_ok _) c35 2000 [.cell 4 24] Try.func35 rfl (by rfl) rfl (by kernel_rfl) ?_
 unfold Try.f35
 simp -implicitDefEqProofs (maxSteps := 4000000) (disch := omega) only [push_cast, c35, Nat.reduceAdd, Nat.reduceSub, Nat.reduceMul, Nat.reduceBEq, Int.reduceToNat, Int.reduceNeg, Int.reduceLE, Int.reduceLT, Int.reduceBEq, Int.reduceBNe, Int.reduceEq, eq_self, reduceCtorEq]
 refine awp_virt (i := 1) (c := 1) (p := .rows []) 25 rfl rfl rfl ?_
 refine awp_upto (tyP_ok _) c35 2000 [1, 2, 4, 5, 6] (a.length) (fun _ => True) (fun s => ⟨61, [(1, .pay (.ints .i64 outs) u), (2, .fref [.pay (.rows a) z]), (4, .ref 0 0), (5, .ref 1 0), (6, .int .i64 s)], [.box [.lit (.slice none 0 0), .lit (.slice none 0 0)], .box [.pay (.rows a) z, .own 2], .arr (.rows (madeO k outs s)) ⟨25, true⟩]⟩) (by kernel_rfl) ?_ ?_ ?_
 ·simp -implicitDefEqProofs (maxSteps := 4000000) (disch := omega) only [push_cast, c35, Nat.reduceAdd, Nat.reduceSub, Nat.reduceMul, Nat.reduceBEq, Int.reduceToNat, Int.reduceNeg, Int.reduceLE, Int.reduceLT, Int.reduceBEq, Int.reduceBNe, Int.reduceEq, eq_self, reduceCtorEq]
  first | done | rfl | exact ⟨rfl, rfl⟩
 ·trivial
 intro s hs _
 have hml : (madeO k outs s).length = s := by simp [madeO]
 simp -implicitDefEqProofs (maxSteps := 4000000) (disch := omega) only [push_cast, c35, Nat.reduceAdd, Nat.reduceSub, Nat.reduceMul, Nat.reduceBEq, Int.reduceToNat, Int.reduceNeg, Int.reduceLE, Int.reduceLT, Int.reduceBEq, Int.reduceBNe, Int.reduceEq, eq_self, reduceCtorEq]
 refine ⟨fun hlt => ?_, fun hge => ?_⟩
 ·have hrl := (hV.row _ (getD_mem' hlt)).1
  refine awp_upto (tyP_ok _) c35 2000 [1, 2, 4, 5, 6, 7, 8] (k) (fun _ => True) (fun x => ⟨61, [(1, .pay (.ints .i64 outs) u), (2, .fref [.pay (.rows a) z]), (4, .ref 0 0), (5, .ref 1 0), (6, .int .i64 s), (7, .own 2), (8, .int .i64 x)], [.box [.lit (.slice none 0 0), .lit (.slice none 0 0)], .box [.pay (.rows a) z, .own 3], .arr (.ints .i64 (madeR k outs s x)) ⟨3, true⟩, .arr (.rows (madeO k outs s)) ⟨25, true⟩]⟩) (by kernel_rfl) ?_ ?_ ?_
  ·simp -implicitDefEqProofs (maxSteps := 4000000) (disch := omega) only [push_cast, c35, Nat.reduceAdd, Nat.reduceSub, Nat.reduceMul, Nat.reduceBEq, Int.reduceToNat, Int.reduceNeg, Int.reduceLE, Int.reduceLT, Int.reduceBEq, Int.reduceBNe, Int.reduceEq, eq_self, reduceCtorEq]
   first | done | exact ⟨rfl, rfl⟩ | rfl
  ·trivial
  intro x hx _
  have hrl2 : (madeR k outs s x).length = x := by simp [madeR]
  have hsk : s * k ≤ 60 * 6 := Nat.mul_le_mul (by omega) hk2
  have e1 : (s : Int) * (k : Int) = ((s * k : Nat) : Int) := by push_cast; rfl
  have e2 : IntKind.i64.wrap (IntKind.i64.wrap ((s : Int) * (k : Int)) + (x : Int)) = ((s * k + x : Nat) : Int) := by
   rw [e1, wrap_nat (n := ((s * k : Nat) : Int)) (by omega) (by omega)]
   exact wrap_nat (by omega) (by omega)
  have hst : madeR k outs s (x + 1) = madeR k outs s x ++ [if s * k + x < outs.length then outs.getD (s * k + x) 0 % 3 else 0] := by simp [madeR, List.range_succ]
  simp -implicitDefEqProofs (maxSteps := 4000000) (disch := omega) only [push_cast, c35, hrl, Nat.reduceAdd, Nat.reduceSub, Nat.reduceMul, Nat.reduceBEq, Int.reduceToNat, Int.reduceNeg, Int.reduceLE, Int.reduceLT, Int.reduceBEq, Int.reduceBNe, Int.reduceEq, eq_self, reduceCtorEq]
  have e3 : (s : Int) * (k : Int) + (x : Int) = ((s * k + x : Nat) : Int) := by rw [e1]; push_cast; rfl
  rw [e3]
  refine ⟨hlt, fun hxk => ⟨hlt, fun hin => ⟨⟨by omega, hin⟩, ?_⟩, fun hout => ?_⟩, fun hkx => ?_⟩
  ·refine callW_rel (f36 _ 3 (by omega) (by omega)) ?_
   rintro R O' ⟨rfl, rfl⟩
   simp -implicitDefEqProofs (maxSteps := 4000000) (disch := omega) only [push_cast, c35, hrl, Nat.reduceAdd, Nat.reduceSub, Nat.reduceMul, Nat.reduceBEq, Int.reduceToNat, Int.reduceNeg, Int.reduceLE, Int.reduceLT, Int.reduceBEq, Int.reduceBNe, Int.reduceEq, eq_self, reduceCtorEq]
   refine ⟨by omega, hxk, ?_⟩
   rw [hst, if_pos (by omega), e3, Int.toNat_natCast]
  ·rw [hst, if_neg (by omega)]
   exact ⟨by omega, hxk, rfl⟩
  ·refine ⟨by omega, hlt, ?_⟩
   have : x = k := by omega
   subst this
   simp [madeO, List.range_succ]
 ·rw [show s = a.length by omega]
theorem madeR_len {k s n : Nat} {outs : List Int} : (madeR k outs s n).length = n := by simp [madeR]
theorem madeO_len {k n : Nat} {outs : List Int} : (madeO k outs n).length = n := by simp [madeO]
theorem madeR_mem {k s n : Nat} {outs : List Int} : ∀ y ∈ madeR k outs s n, 0 ≤ y ∧ y < 16 := fun y hy => by
 obtain ⟨x, _, rfl⟩ := List.mem_map.1 hy
 split
 ·exact ⟨Int.emod_nonneg _ (by omega), by have := Int.emod_lt_of_pos (outs.getD (s * k + x) 0) (show (0 : Int) < 3 by omega); omega⟩
 ·omega
theorem made_vm {a : List (List Int)} {k : Nat} {outs : List Int} (hV : Vld a k) : VM a (madeO k outs a.length) k := by
 refine ⟨hV, madeO_len, fun r hr => ?_⟩
 obtain ⟨s, _, rfl⟩ := List.mem_map.1 hr
 exact ⟨madeR_len, madeR_mem⟩
end Go.AM
end

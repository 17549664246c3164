/-
  Contract of HomeAfter; conditions in each statement.
-/
import Derived.Test.YtkpoffjimfiabaaS7
set_option linter.unusedVariables false
set_option linter.unusedSimpArgs false
set_option linter.unusedSectionVars false
set_option linter.unnecessarySimpa false

section
namespace Go.AM
open Go Go.Proofs Go.Sort
theorem HomeR.ok {N O : List (List Int)} {w : List Int} {e : Int} (h : HomeR N O w e) (he : e = 0) : vmB N O = true ∧ homW N O w ∧ (∀ c ∈ w, 0 ≤ c ∧ c < ((N.getD 0 []).length : Int)) ∧ w.length ≤ 40000 := by
 rcases h with ⟨_, h, _⟩ | ⟨_, _, h, _⟩ | ⟨hv, _, w', w1, w2, _, ⟨_, h, _⟩ | ⟨h4, _, rfl⟩⟩
 ·omega
 ·omega
 ·omega
 ·exact ⟨hv, w1, w2, h4⟩
def c8 : VCfg := ⟨⟨[], [], [], [0, 1, 2, 3, 4, 8, 9, 10, 11, 12, 13, 14, 15, 16, 32, 60]⟩, [], [], []⟩
set_option maxHeartbeats 4000000 in
set_option maxRecDepth 100000 in
theorem f8 (N O : List (List Int)) (x y : Int) (v : List Int) (hl : N.length ≤ 4611686018427387904) (hl2 : ∀ r ∈ N, r.length ≤ 4611686018427387904) (ho : O.length ≤ 4611686018427387904) (ho2 : ∀ r ∈ O, r.length ≤ 4611686018427387904) (hv : v.length ≤ 17592186044416) :
  ACall Try.prog 8 [.agg [.pay (.rows (N)) (false), .pay (.rows (O)) (false)], .int .i64 x, .int .i64 y, .pay (.ints .i64 v) false] (fun r objs => r = .bool true ∧ objs = []) := by
 refine acall_intro (tyP_ok _) c8 2000 [.tmp 8] Try.func8 rfl (by rfl) rfl (by kernel_rfl) ?_
 unfold Try.f8
 simp -implicitDefEqProofs (maxSteps := 4000000) (disch := omega) only [push_cast, c8, Nat.reduceAdd, Nat.reduceSub, Nat.reduceMul, Nat.reduceBEq, Int.reduceToNat, Int.reduceNeg, Int.reduceLE, Int.reduceLT, Int.reduceBEq, Int.reduceBNe, Int.reduceEq, eq_self, reduceCtorEq]
 refine callW_rel (f21 N O false false hl hl2 ho ho2) ?_
 rintro R O' ⟨w, e, nz, hR, rfl, rfl⟩
 simp -implicitDefEqProofs (maxSteps := 4000000) (disch := omega) only [push_cast, c8, Nat.reduceAdd, Nat.reduceSub, Nat.reduceMul, Nat.reduceBEq, Int.reduceToNat, Int.reduceNeg, Int.reduceLE, Int.reduceLT, Int.reduceBEq, Int.reduceBNe, Int.reduceEq, eq_self, reduceCtorEq]
 refine callW_rel (f12 N O false false hl ho) ?_
 rintro R O' ⟨b, rfl, hb, rfl⟩
 simp -implicitDefEqProofs (maxSteps := 4000000) (disch := omega) only [push_cast, c8, Nat.reduceAdd, Nat.reduceSub, Nat.reduceMul, Nat.reduceBEq, Int.reduceToNat, Int.reduceNeg, Int.reduceLE, Int.reduceLT, Int.reduceBEq, Int.reduceBNe, Int.reduceEq, eq_self, reduceCtorEq]
 refine ⟨fun h => ?_, fun h => ⟨fun h1 => ?_, fun h1 => ⟨fun he => ?_, fun he => ?_⟩⟩⟩
 ·refine callW_eq _ _ (f13) ?_
  simp -implicitDefEqProofs (maxSteps := 4000000) (disch := omega) only [push_cast, c8, Nat.reduceAdd, Nat.reduceSub, Nat.reduceMul, Nat.reduceBEq, Int.reduceToNat, Int.reduceNeg, Int.reduceLE, Int.reduceLT, Int.reduceBEq, Int.reduceBNe, Int.reduceEq, eq_self, reduceCtorEq]
 ·refine callW_eq _ _ (f13) ?_
  simp -implicitDefEqProofs (maxSteps := 4000000) (disch := omega) only [push_cast, c8, Nat.reduceAdd, Nat.reduceSub, Nat.reduceMul, Nat.reduceBEq, Int.reduceToNat, Int.reduceNeg, Int.reduceLE, Int.reduceLT, Int.reduceBEq, Int.reduceBNe, Int.reduceEq, eq_self, reduceCtorEq]
 ·refine callW_eq _ _ (f13) ?_
  simp -implicitDefEqProofs (maxSteps := 4000000) (disch := omega) only [push_cast, c8, Nat.reduceAdd, Nat.reduceSub, Nat.reduceMul, Nat.reduceBEq, Int.reduceToNat, Int.reduceNeg, Int.reduceLE, Int.reduceLT, Int.reduceBEq, Int.reduceBNe, Int.reduceEq, eq_self, reduceCtorEq]
 have h4 := hR.ok he
 subst he
 refine ⟨by omega, by omega, ?_⟩
 have hwv : (w ++ v).length ≤ 40200 := by rw [List.length_append]; omega
 refine callW_rel (f28 N O false false _ x (w ++ v) hl hl2 ho ho2 (by omega)) ?_
 rintro R O' ⟨a, p, f, hf, rfl, rfl⟩
 simp -implicitDefEqProofs (maxSteps := 4000000) (disch := omega) only [push_cast, c8, Nat.reduceAdd, Nat.reduceSub, Nat.reduceMul, Nat.reduceBEq, Int.reduceToNat, Int.reduceNeg, Int.reduceLE, Int.reduceLT, Int.reduceBEq, Int.reduceBNe, Int.reduceEq, eq_self, reduceCtorEq]
 refine callW_rel (f28 N O false false _ y (w ++ v) hl hl2 ho ho2 (by omega)) ?_
 rintro R O' ⟨c, q, g, hg, rfl, rfl⟩
 simp -implicitDefEqProofs (maxSteps := 4000000) (disch := omega) only [push_cast, c8, Nat.reduceAdd, Nat.reduceSub, Nat.reduceMul, Nat.reduceBEq, Int.reduceToNat, Int.reduceNeg, Int.reduceLE, Int.reduceLT, Int.reduceBEq, Int.reduceBNe, Int.reduceEq, eq_self, reduceCtorEq]
 refine ⟨fun _ => ?_, fun hf0 => ⟨fun _ => ?_, fun hg0 => ⟨fun _ => ?_, fun hpq => ?_⟩⟩⟩
 ·refine callW_eq _ _ (f13) ?_
  simp -implicitDefEqProofs (maxSteps := 4000000) (disch := omega) only [push_cast, c8, Nat.reduceAdd, Nat.reduceSub, Nat.reduceMul, Nat.reduceBEq, Int.reduceToNat, Int.reduceNeg, Int.reduceLE, Int.reduceLT, Int.reduceBEq, Int.reduceBNe, Int.reduceEq, eq_self, reduceCtorEq]
 ·refine callW_eq _ _ (f13) ?_
  simp -implicitDefEqProofs (maxSteps := 4000000) (disch := omega) only [push_cast, c8, Nat.reduceAdd, Nat.reduceSub, Nat.reduceMul, Nat.reduceBEq, Int.reduceToNat, Int.reduceNeg, Int.reduceLE, Int.reduceLT, Int.reduceBEq, Int.reduceBNe, Int.reduceEq, eq_self, reduceCtorEq]
 ·refine callW_eq _ _ (f13) ?_
  simp -implicitDefEqProofs (maxSteps := 4000000) (disch := omega) only [push_cast, c8, Nat.reduceAdd, Nat.reduceSub, Nat.reduceMul, Nat.reduceBEq, Int.reduceToNat, Int.reduceNeg, Int.reduceLE, Int.reduceLT, Int.reduceBEq, Int.reduceBNe, Int.reduceEq, eq_self, reduceCtorEq]
 have h5 := hf.e0 hf0
 have h6 := hg.e0 hg0
 have hal : a.length ≤ 40200 := by rw [h5.2.2.2, outsG_len]; exact hwv
 have hne : a ≠ c := fun e => by
  rw [h5.2.2.2, h6.2.2.2] at e
  exact hpq (by rw [h5.2.2.1, h6.2.2.1]; exact homW_app h4.2.1 x y h5.2.1.1 h6.2.1.1 e)
 refine callW_eq _ _ (f29 a c _ _ (by omega)) ?_
 simp -implicitDefEqProofs (maxSteps := 4000000) (disch := omega) only [push_cast, c8, Nat.reduceAdd, Nat.reduceSub, Nat.reduceMul, Nat.reduceBEq, Int.reduceToNat, Int.reduceNeg, Int.reduceLE, Int.reduceLT, Int.reduceBEq, Int.reduceBNe, Int.reduceEq, eq_self, reduceCtorEq]
 refine ⟨fun _ => ?_, fun h => absurd h hne⟩
 refine callW_eq _ _ (f13) ?_
 simp -implicitDefEqProofs (maxSteps := 4000000) (disch := omega) only [push_cast, c8, Nat.reduceAdd, Nat.reduceSub, Nat.reduceMul, Nat.reduceBEq, Int.reduceToNat, Int.reduceNeg, Int.reduceLE, Int.reduceLT, Int.reduceBEq, Int.reduceBNe, Int.reduceEq, eq_self, reduceCtorEq]
theorem lawHomeAfter (N O : List (List Int)) (x y : Int) (v : List Int) (hl : N.length ≤ 4611686018427387904) (hl2 : ∀ r ∈ N, r.length ≤ 4611686018427387904) (ho : O.length ≤ 4611686018427387904) (ho2 : ∀ r ∈ O, r.length ≤ 4611686018427387904) (hv : v.length ≤ 17592186044416) :
  ACall Try.prog 8 [.agg [.pay (.rows (N)) (false), .pay (.rows (O)) (false)], .int .i64 x, .int .i64 y, .pay (.ints .i64 v) false] (fun r objs => r = .bool true ∧ objs = []) := f8 N O x y v hl hl2 ho ho2 hv
end Go.AM
end

/-
  Contract of HomeSeeks; conditions in each statement.
-/
import Derived.Test.YtkpoffjimfiabaaGreatS9
import Derived.Test.YtkpoffjimfiabaaGreatS7
import Derived.Test.YtkpoffjimfiabaaGreatS8c
import Derived.Test.YtkpoffjimfiabaaGreatS8a
set_option linter.unusedVariables false
set_option linter.unusedSimpArgs false
set_option linter.unusedSectionVars false
set_option linter.unnecessarySimpa false

section
namespace Go.AM
open Go Go.Proofs Go.Sort
def c3 : VCfg := ⟨⟨[], [], [], [0, 1, 2, 4, 5, 6, 7, 8, 9, 11, 20, 38, 62, 80]⟩, [], [], []⟩
set_option maxHeartbeats 8000000 in
set_option maxRecDepth 100000 in
theorem f3 (N O : List (List Int)) (s : Int) (hl : N.length ≤ 4611686018427387904) (ho : O.length ≤ 4611686018427387904) :
  ACall Tryz.prog 3 [.agg [.pay (.rows (N)) (false), .pay (.rows (O)) (false)], .int .i64 s] (fun r objs => r = .bool true ∧ objs = []) := by
 refine acall_intro (tyP_ok _) c3 2000 [.tmp 4] Tryz.func3 rfl (by rfl) rfl (by kernel_rfl) ?_
 unfold Tryz.f3
 simp -implicitDefEqProofs (maxSteps := 4000000) (disch := omega) only [push_cast, c3, Nat.reduceAdd, Nat.reduceSub, Nat.reduceMul, Nat.reduceBEq, Int.reduceToNat, Int.reduceNeg, Int.reduceLE, Int.reduceLT, Int.reduceBEq, Int.reduceBNe, Int.reduceEq, eq_self, reduceCtorEq]
 refine callW_rel (f4 N O false false hl ho) ?_
 rintro R O' ⟨b, rfl, hb, rfl⟩
 simp -implicitDefEqProofs (maxSteps := 4000000) (disch := omega) only [push_cast, c3, Nat.reduceAdd, Nat.reduceSub, Nat.reduceMul, Nat.reduceBEq, Int.reduceToNat, Int.reduceNeg, Int.reduceLE, Int.reduceLT, Int.reduceBEq, Int.reduceBNe, Int.reduceEq, eq_self, reduceCtorEq]
 refine ⟨fun h => ?_, fun h => ?_⟩
 ·refine callW_eq _ _ (f5) ?_
  simp -implicitDefEqProofs (maxSteps := 4000000) (disch := omega) only [push_cast, c3, Nat.reduceAdd, Nat.reduceSub, Nat.reduceMul, Nat.reduceBEq, Int.reduceToNat, Int.reduceNeg, Int.reduceLE, Int.reduceLT, Int.reduceBEq, Int.reduceBNe, Int.reduceEq, eq_self, reduceCtorEq]
 have h := hb h
 have hb2 := nb h
 refine callW_rel (f6 N O false false s hb2.1.1 hb2.1.2 hb2.2.1 hb2.2.2) ?_
 rintro R O' ⟨w, t, e, nz, hR, rfl, rfl⟩
 simp -implicitDefEqProofs (maxSteps := 4000000) (disch := omega) only [push_cast, c3, Nat.reduceAdd, Nat.reduceSub, Nat.reduceMul, Nat.reduceBEq, Int.reduceToNat, Int.reduceNeg, Int.reduceLE, Int.reduceLT, Int.reduceBEq, Int.reduceBNe, Int.reduceEq, eq_self, reduceCtorEq]
 refine callW_eq _ _ (f7 N O false false hb2.1.1 hb2.1.2 hb2.2.1 hb2.2.2) ?_
 simp -implicitDefEqProofs (maxSteps := 4000000) (disch := omega) only [push_cast, c3, Nat.reduceAdd, Nat.reduceSub, Nat.reduceMul, Nat.reduceBEq, Int.reduceToNat, Int.reduceNeg, Int.reduceLE, Int.reduceLT, Int.reduceBEq, Int.reduceBNe, Int.reduceEq, eq_self, reduceCtorEq]
 refine ⟨fun hv => ?_, fun hv => ?_⟩
 ·have q : e = 1 ∧ w = [] ∧ t = 0 := by
   rcases hR with ⟨_, h⟩ | ⟨h, _⟩ | ⟨h, _⟩ | ⟨h, _⟩
   ·exact h
   all_goals (rw [hv] at h; cases h)
  have a1 := q.1
  have a2 := q.2.1
  have a3 := q.2.2
  subst a1
  subst a2
  subst a3
  refine ⟨fun _ => ⟨fun _ => ⟨fun _ => ?_, fun h => absurd rfl h⟩, fun h => absurd rfl h⟩, fun h => absurd rfl h⟩
  refine callW_eq _ _ (f5) ?_
  simp -implicitDefEqProofs (maxSteps := 4000000) (disch := omega) only [push_cast, c3, Nat.reduceAdd, Nat.reduceSub, Nat.reduceMul, Nat.reduceBEq, Int.reduceToNat, Int.reduceNeg, Int.reduceLE, Int.reduceLT, Int.reduceBEq, Int.reduceBNe, Int.reduceEq, eq_self, reduceCtorEq]
 have hV := vmB_iff.1 hv
 have hn1 := hV.v.n1
 have hn2 := hV.v.n2
 have hbad : ¬ (0 ≤ s ∧ s < N.length) → e = 2 ∧ w = [] ∧ t = 0 := fun hs => by
  rcases hR with ⟨h, _⟩ | ⟨_, _, h⟩ | ⟨_, h, _⟩ | ⟨_, h, _⟩
  ·rw [hv] at h; cases h
  ·exact h
  ·exact absurd h hs
  ·exact absurd h hs
 refine ⟨fun h0 => ?_, fun h0 => ⟨fun h1 => ?_, fun h1 => ?_⟩⟩
 ·have q := hbad (fun g => by omega)
  have a1 := q.1
  have a2 := q.2.1
  have a3 := q.2.2
  subst a1
  subst a2
  subst a3
  refine ⟨fun _ => ⟨fun _ => ⟨fun _ => ?_, fun h => absurd rfl h⟩, fun h => absurd rfl h⟩, fun h => absurd rfl h⟩
  refine callW_eq _ _ (f5) ?_
  simp -implicitDefEqProofs (maxSteps := 4000000) (disch := omega) only [push_cast, c3, Nat.reduceAdd, Nat.reduceSub, Nat.reduceMul, Nat.reduceBEq, Int.reduceToNat, Int.reduceNeg, Int.reduceLE, Int.reduceLT, Int.reduceBEq, Int.reduceBNe, Int.reduceEq, eq_self, reduceCtorEq]
 ·have q := hbad (fun g => by omega)
  have a1 := q.1
  have a2 := q.2.1
  have a3 := q.2.2
  subst a1
  subst a2
  subst a3
  refine ⟨fun _ => ⟨fun _ => ⟨fun _ => ?_, fun h => absurd rfl h⟩, fun h => absurd rfl h⟩, fun h => absurd rfl h⟩
  refine callW_eq _ _ (f5) ?_
  simp -implicitDefEqProofs (maxSteps := 4000000) (disch := omega) only [push_cast, c3, Nat.reduceAdd, Nat.reduceSub, Nat.reduceMul, Nat.reduceBEq, Int.reduceToNat, Int.reduceNeg, Int.reduceLE, Int.reduceLT, Int.reduceBEq, Int.reduceBNe, Int.reduceEq, eq_self, reduceCtorEq]
 have hs : 0 ≤ s ∧ s < N.length := ⟨h0, h1⟩
 have hnm : cntT N O (N.getD 0 []).length ≠ N.length → e = 4 ∧ w = [] ∧ t = 0 := fun hm => by
  rcases hR with ⟨h, _⟩ | ⟨_, h, _⟩ | ⟨_, _, _, h⟩ | ⟨_, _, h, _⟩
  ·rw [hv] at h; cases h
  ·exact absurd hs h
  ·exact h
  ·exact absurd h hm
 have hmm : cntT N O (N.getD 0 []).length = N.length → e = 0 ∧ ∃ j P, Chn N O (N.getD 0 []).length s j w t P ∧ P.length ≤ 1 := fun hm => by
  rcases hR with ⟨h, _⟩ | ⟨_, h, _⟩ | ⟨_, _, h, _⟩ | ⟨_, _, _, h⟩
  ·rw [hv] at h; cases h
  ·exact absurd hs h
  ·exact absurd hm h
  ·exact h
 clear hR hbad
 refine callW_eq _ _ (f8 N O false false _ hV) ?_
 simp -implicitDefEqProofs (maxSteps := 4000000) (disch := omega) only [push_cast, c3, Nat.reduceAdd, Nat.reduceSub, Nat.reduceMul, Nat.reduceBEq, Int.reduceToNat, Int.reduceNeg, Int.reduceLE, Int.reduceLT, Int.reduceBEq, Int.reduceBNe, Int.reduceEq, eq_self, reduceCtorEq]
 refine ⟨fun hm => ?_, fun hm => ?_⟩
 ·have q := hnm hm
  have a1 := q.1
  have a2 := q.2.1
  have a3 := q.2.2
  subst a1
  subst a2
  subst a3
  refine ⟨fun _ => ⟨fun _ => ⟨fun _ => ?_, fun h => absurd rfl h⟩, fun h => absurd rfl h⟩, fun h => absurd rfl h⟩
  refine callW_eq _ _ (f5) ?_
  simp -implicitDefEqProofs (maxSteps := 4000000) (disch := omega) only [push_cast, c3, Nat.reduceAdd, Nat.reduceSub, Nat.reduceMul, Nat.reduceBEq, Int.reduceToNat, Int.reduceNeg, Int.reduceLE, Int.reduceLT, Int.reduceBEq, Int.reduceBNe, Int.reduceEq, eq_self, reduceCtorEq]
 ·have q := hmm hm
  have a1 := q.1
  subst a1
  refine ⟨fun h12 => ⟨fun _ => ?_, fun h => absurd rfl h⟩, fun h12 => ?_⟩
  ·refine callW_eq _ _ (f5) ?_
   simp -implicitDefEqProofs (maxSteps := 4000000) (disch := omega) only [push_cast, c3, Nat.reduceAdd, Nat.reduceSub, Nat.reduceMul, Nat.reduceBEq, Int.reduceToNat, Int.reduceNeg, Int.reduceLE, Int.reduceLT, Int.reduceBEq, Int.reduceBNe, Int.reduceEq, eq_self, reduceCtorEq]
  refine callW_rel (f9 N O false false s _ hV hm hs) ?_
  rintro R O' ⟨j', v', t', P', nz', hc', hP', rfl, rfl⟩
  simp -implicitDefEqProofs (maxSteps := 4000000) (disch := omega) only [push_cast, c3, Nat.reduceAdd, Nat.reduceSub, Nat.reduceMul, Nat.reduceBEq, Int.reduceToNat, Int.reduceNeg, Int.reduceLE, Int.reduceLT, Int.reduceBEq, Int.reduceBNe, Int.reduceEq, eq_self, reduceCtorEq]
  have hwt : w = v' ∧ t = t' := by
   obtain ⟨_, j, P, hc, hP⟩ := q
   have := hc.uniq hc' hP hP'
   exact ⟨this.1, this.2.1⟩
  have hwl : w.length ≤ 3540 := by
   obtain ⟨_, j, P, hc, _⟩ := q
   have hok := hc.ok hV hm hs
   have hbd := hok.bud
   have hba := budG_all (n := N.length)
   have hnn : N.length * (N.length - 1) ≤ 60 * 59 := Nat.mul_le_mul hn2 (by omega)
   omega
  have b1 := hwt.1
  have b2 := hwt.2
  subst b1
  subst b2
  refine callW_eq _ _ (f10 w w nz nz' (by omega)) ?_
  simp -implicitDefEqProofs (maxSteps := 4000000) (disch := omega) only [push_cast, c3, Nat.reduceAdd, Nat.reduceSub, Nat.reduceMul, Nat.reduceBEq, Int.reduceToNat, Int.reduceNeg, Int.reduceLE, Int.reduceLT, Int.reduceBEq, Int.reduceBNe, Int.reduceEq, eq_self, reduceCtorEq]
  refine callW_eq _ _ (f5) ?_
  simp -implicitDefEqProofs (maxSteps := 4000000) (disch := omega) only [push_cast, c3, Nat.reduceAdd, Nat.reduceSub, Nat.reduceMul, Nat.reduceBEq, Int.reduceToNat, Int.reduceNeg, Int.reduceLE, Int.reduceLT, Int.reduceBEq, Int.reduceBNe, Int.reduceEq, eq_self, reduceCtorEq]
theorem lawHomeSeeks (N O : List (List Int)) (s : Int) (hl : N.length ≤ 4611686018427387904) (_ : ∀ r ∈ N, r.length ≤ 4611686018427387904) (ho : O.length ≤ 4611686018427387904) (_ : ∀ r ∈ O, r.length ≤ 4611686018427387904) :
  ACall Tryz.prog 3 [.agg [.pay (.rows (N)) (false), .pay (.rows (O)) (false)], .int .i64 s] (fun r objs => r = .bool true ∧ objs = []) := f3 N O s hl ho
end Go.AM
end

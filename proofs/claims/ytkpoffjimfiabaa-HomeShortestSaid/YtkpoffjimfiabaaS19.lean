/-
  Contracts of first and HomeShortest; conditions in each statement.
-/
import Derived.Test.YtkpoffjimfiabaaS18
set_option linter.unusedVariables false
set_option linter.unusedSimpArgs false
set_option linter.unusedSectionVars false
set_option linter.unnecessarySimpa false

section
namespace Go.AM
open Go Go.Proofs Go.Sort
def c26 : VCfg := ⟨⟨[], [], [], [0, 1, 2, 3, 4, 8, 9, 10, 11, 19, 22]⟩, [], [], []⟩
set_option maxHeartbeats 4000000 in
set_option maxRecDepth 100000 in
theorem f26 (N O : List (List Int)) (z z' u ap : Bool) (k : Nat) (w : List Int) (e : Int) (hV : VM N O k) (hk : (N.getD 0 []).length = k) (hn : N.length ≤ 7) (hS : SeaR N O ap w e) (hw : w.length ≤ 4611686018427387904) :
  ACall Try.prog 26 [.agg [.pay (.rows (N)) (z), .pay (.rows (O)) (z')], .pay (.ints .i64 w) u, .int .i64 e, .bool ap] (fun r objs => r = .bool true ∧ objs = []) := by
 refine acall_intro (tyP_ok _) c26 2000 [.tmp 8] Try.func26 rfl (by rfl) rfl (by kernel_rfl) ?_
 unfold Try.f26
 simp -implicitDefEqProofs (maxSteps := 4000000) (disch := omega) only [push_cast, c26, Nat.reduceAdd, Nat.reduceSub, Nat.reduceMul, Nat.reduceBEq, Int.reduceToNat, Int.reduceNeg, Int.reduceLE, Int.reduceLT, Int.reduceBEq, Int.reduceBNe, Int.reduceEq, eq_self, reduceCtorEq]
 refine callW_rel (f60 N O z z' ap k hV hn) ?_
 rintro R O' ⟨w', ok, fine, nz, hF, rfl, rfl⟩
 simp -implicitDefEqProofs (maxSteps := 4000000) (disch := omega) only [push_cast, c26, Nat.reduceAdd, Nat.reduceSub, Nat.reduceMul, Nat.reduceBEq, Int.reduceToNat, Int.reduceNeg, Int.reduceLE, Int.reduceLT, Int.reduceBEq, Int.reduceBNe, Int.reduceEq, eq_self, reduceCtorEq]
 refine fun hfi => ?_
 subst hfi
 have h := hF.sea hV hk hn hS
 refine ⟨fun hok => ?_, fun hok => ?_⟩
 ·have h1 : e = 4 ∧ w = [] := by
   rcases h with ⟨_, h⟩ | ⟨h, _⟩
   ·exact h
   ·rw [hok] at h; cases h
  exact ⟨fun _ => by rw [h1.2]; rfl, fun h => absurd h1.1 h⟩
 ·have h1 : e = 0 ∧ w = w' := by
   rcases h with ⟨h, _⟩ | ⟨_, h⟩
   ·rw [hok] at h; cases h
   ·exact h
  have h2 := h1.2
  subst h2
  refine ⟨fun _ => ?_, fun h => absurd h1.1 h⟩
  refine callW_eq _ _ (f29 w w _ _ hw) ?_
  simp -implicitDefEqProofs (maxSteps := 4000000) (disch := omega) only [push_cast, c26, Nat.reduceAdd, Nat.reduceSub, Nat.reduceMul, Nat.reduceBEq, Int.reduceToNat, Int.reduceNeg, Int.reduceLE, Int.reduceLT, Int.reduceBEq, Int.reduceBNe, Int.reduceEq, eq_self, reduceCtorEq]
theorem SeaR.bad {N O : List (List Int)} {tl : Bool} {w : List Int} {e : Int} (h : SeaR N O tl w e) (hv : vmB N O = false) : e = 1 ∧ w = [] := by
 rcases h with ⟨_, h⟩ | ⟨h, _⟩ | ⟨h, _⟩ | ⟨h, _⟩
 ·exact h
 all_goals (rw [hv] at h; cases h)
theorem SeaR.big {N O : List (List Int)} {tl : Bool} {w : List Int} {e : Int} (h : SeaR N O tl w e) (hv : vmB N O = true) (hn : 7 < N.length) : e = 3 ∧ w = [] := by
 rcases h with ⟨h, _⟩ | ⟨_, _, h⟩ | ⟨_, h, _⟩ | ⟨_, h, _⟩
 ·rw [hv] at h; cases h
 ·exact h
 ·omega
 ·omega
theorem SeaR.len {N O : List (List Int)} {tl : Bool} {w : List Int} {e : Int} (h : SeaR N O tl w e) (hV : VM N O (N.getD 0 []).length) (hn : N.length ≤ 7) : w.length ≤ 39217 := by
 rcases h with ⟨_, _, rfl⟩ | ⟨_, _, _, rfl⟩ | ⟨_, _, _, rfl, _⟩ | ⟨_, _, _, h2, h3, h4⟩
 ·simp
 ·simp
 ·simp
 ·exact sea_short hV hn h2 h3 h4
def c6 : VCfg := ⟨⟨[], [], [], [0, 1, 2, 3, 4, 5, 6, 8, 20, 42]⟩, [], [], []⟩
set_option maxHeartbeats 4000000 in
set_option maxRecDepth 100000 in
theorem f6 (N O : List (List Int)) (hl : N.length ≤ 4611686018427387904) (ho : O.length ≤ 4611686018427387904) :
  ACall Try.prog 6 [.agg [.pay (.rows (N)) (false), .pay (.rows (O)) (false)]] (fun r objs => r = .bool true ∧ objs = []) := by
 refine acall_intro (tyP_ok _) c6 2000 [.tmp 2] Try.func6 rfl (by rfl) rfl (by kernel_rfl) ?_
 unfold Try.f6
 simp -implicitDefEqProofs (maxSteps := 4000000) (disch := omega) only [push_cast, c6, Nat.reduceAdd, Nat.reduceSub, Nat.reduceMul, Nat.reduceBEq, Int.reduceToNat, Int.reduceNeg, Int.reduceLE, Int.reduceLT, Int.reduceBEq, Int.reduceBNe, Int.reduceEq, eq_self, reduceCtorEq]
 refine callW_rel (f12 N O false false hl ho) ?_
 rintro R O' ⟨b, rfl, hb, rfl⟩
 simp -implicitDefEqProofs (maxSteps := 4000000) (disch := omega) only [push_cast, c6, Nat.reduceAdd, Nat.reduceSub, Nat.reduceMul, Nat.reduceBEq, Int.reduceToNat, Int.reduceNeg, Int.reduceLE, Int.reduceLT, Int.reduceBEq, Int.reduceBNe, Int.reduceEq, eq_self, reduceCtorEq]
 refine ⟨fun h => ?_, fun h => ?_⟩
 ·refine callW_eq _ _ (f13) ?_
  simp -implicitDefEqProofs (maxSteps := 4000000) (disch := omega) only [push_cast, c6, Nat.reduceAdd, Nat.reduceSub, Nat.reduceMul, Nat.reduceBEq, Int.reduceToNat, Int.reduceNeg, Int.reduceLE, Int.reduceLT, Int.reduceBEq, Int.reduceBNe, Int.reduceEq, eq_self, reduceCtorEq]
 have h := hb h
 have hb2 := nb h
 refine callW_rel (f24 N O false false hb2.1.1 hb2.1.2 hb2.2.1 hb2.2.2) ?_
 rintro R O' ⟨v, f, nz, hT, rfl, rfl⟩
 simp -implicitDefEqProofs (maxSteps := 4000000) (disch := omega) only [push_cast, c6, Nat.reduceAdd, Nat.reduceSub, Nat.reduceMul, Nat.reduceBEq, Int.reduceToNat, Int.reduceNeg, Int.reduceLE, Int.reduceLT, Int.reduceBEq, Int.reduceBNe, Int.reduceEq, eq_self, reduceCtorEq]
 refine callW_rel (f25 N O false false hb2.1.1 hb2.1.2 hb2.2.1 hb2.2.2) ?_
 rintro R O' ⟨w, e, nz2, hS, rfl, rfl⟩
 simp -implicitDefEqProofs (maxSteps := 4000000) (disch := omega) only [push_cast, c6, Nat.reduceAdd, Nat.reduceSub, Nat.reduceMul, Nat.reduceBEq, Int.reduceToNat, Int.reduceNeg, Int.reduceLE, Int.reduceLT, Int.reduceBEq, Int.reduceBNe, Int.reduceEq, eq_self, reduceCtorEq]
 refine callW_eq _ _ (f16 N O false false hb2.1.1 hb2.1.2 hb2.2.1 hb2.2.2) ?_
 simp -implicitDefEqProofs (maxSteps := 4000000) (disch := omega) only [push_cast, c6, Nat.reduceAdd, Nat.reduceSub, Nat.reduceMul, Nat.reduceBEq, Int.reduceToNat, Int.reduceNeg, Int.reduceLE, Int.reduceLT, Int.reduceBEq, Int.reduceBNe, Int.reduceEq, eq_self, reduceCtorEq]
 refine ⟨fun hv => ?_, fun hv => ⟨fun h7 => ?_, fun h7 => ?_⟩⟩
 ·have q1 := hS.bad hv
  have q2 := hT.bad hv
  have a1 := q1.1
  have a2 := q1.2
  have a3 := q2.1
  have a4 := q2.2
  subst a1
  subst a2
  subst a3
  subst a4
  refine ⟨fun _ => ⟨fun _ => ⟨fun _ => ?_, fun h => absurd rfl h⟩, fun h => absurd rfl h⟩, fun h => absurd rfl h⟩
  refine callW_eq _ _ (f13) ?_
  simp -implicitDefEqProofs (maxSteps := 4000000) (disch := omega) only [push_cast, c6, Nat.reduceAdd, Nat.reduceSub, Nat.reduceMul, Nat.reduceBEq, Int.reduceToNat, Int.reduceNeg, Int.reduceLE, Int.reduceLT, Int.reduceBEq, Int.reduceBNe, Int.reduceEq, eq_self, reduceCtorEq]
 ·have q1 := hS.big hv (by omega)
  have q2 := hT.big hv (by omega)
  have a1 := q1.1
  have a2 := q1.2
  have a3 := q2.1
  have a4 := q2.2
  subst a1
  subst a2
  subst a3
  subst a4
  refine ⟨fun _ => ⟨fun _ => ⟨fun _ => ?_, fun h => absurd rfl h⟩, fun h => absurd rfl h⟩, fun h => absurd rfl h⟩
  refine callW_eq _ _ (f13) ?_
  simp -implicitDefEqProofs (maxSteps := 4000000) (disch := omega) only [push_cast, c6, Nat.reduceAdd, Nat.reduceSub, Nat.reduceMul, Nat.reduceBEq, Int.reduceToNat, Int.reduceNeg, Int.reduceLE, Int.reduceLT, Int.reduceBEq, Int.reduceBNe, Int.reduceEq, eq_self, reduceCtorEq]
 ·have hV := vmB_iff.1 hv
  have l1 := hS.len hV (by omega)
  have l2 := hT.len hV (by omega)
  refine callW_eq _ _ (f26 N O false false nz2 false _ w e hV rfl (by omega) hS (by omega)) ?_
  simp -implicitDefEqProofs (maxSteps := 4000000) (disch := omega) only [push_cast, c6, Nat.reduceAdd, Nat.reduceSub, Nat.reduceMul, Nat.reduceBEq, Int.reduceToNat, Int.reduceNeg, Int.reduceLE, Int.reduceLT, Int.reduceBEq, Int.reduceBNe, Int.reduceEq, eq_self, reduceCtorEq]
  refine callW_eq _ _ (f26 N O false false nz true _ v f hV rfl (by omega) hT (by omega)) ?_
  simp -implicitDefEqProofs (maxSteps := 4000000) (disch := omega) only [push_cast, c6, Nat.reduceAdd, Nat.reduceSub, Nat.reduceMul, Nat.reduceBEq, Int.reduceToNat, Int.reduceNeg, Int.reduceLE, Int.reduceLT, Int.reduceBEq, Int.reduceBNe, Int.reduceEq, eq_self, reduceCtorEq]
  refine callW_eq _ _ (f13) ?_
  simp -implicitDefEqProofs (maxSteps := 4000000) (disch := omega) only [push_cast, c6, Nat.reduceAdd, Nat.reduceSub, Nat.reduceMul, Nat.reduceBEq, Int.reduceToNat, Int.reduceNeg, Int.reduceLE, Int.reduceLT, Int.reduceBEq, Int.reduceBNe, Int.reduceEq, eq_self, reduceCtorEq]
theorem lawHomeShortest (N O : List (List Int)) (hl : N.length ≤ 4611686018427387904) (_ : ∀ r ∈ N, r.length ≤ 4611686018427387904) (ho : O.length ≤ 4611686018427387904) (_ : ∀ r ∈ O, r.length ≤ 4611686018427387904) :
  ACall Try.prog 6 [.agg [.pay (.rows (N)) (false), .pay (.rows (O)) (false)]] (fun r objs => r = .bool true ∧ objs = []) := f6 N O hl ho
end Go.AM
end

/-
  Contract of HomeSeek; conditions in each statement.
-/
import Derived.Test.YtkpoffjimfiabaaS7
import Derived.Test.YtkpoffjimfiabaaS8c
set_option linter.unusedVariables false
set_option linter.unusedSimpArgs false
set_option linter.unusedSectionVars false
set_option linter.unnecessarySimpa false

section
namespace Go.AM
open Go Go.Proofs Go.Sort
def c10 : VCfg := ⟨⟨[], [], [], [0, 1, 2, 4, 5, 6, 7, 9, 10, 11, 13, 23]⟩, [], [], []⟩
set_option maxHeartbeats 4000000 in
set_option maxRecDepth 100000 in
theorem f10 (N O : List (List Int)) (s : Int) (hl : N.length ≤ 4611686018427387904) (ho : O.length ≤ 4611686018427387904) :
  ACall Try.prog 10 [.agg [.pay (.rows (N)) (false), .pay (.rows (O)) (false)], .int .i64 s] (fun r objs => r = .bool true ∧ objs = []) := by
 refine acall_intro (tyP_ok _) c10 2000 [.tmp 4] Try.func10 rfl (by rfl) rfl (by kernel_rfl) ?_
 unfold Try.f10
 simp -implicitDefEqProofs (maxSteps := 4000000) (disch := omega) only [push_cast, c10, Nat.reduceAdd, Nat.reduceSub, Nat.reduceMul, Nat.reduceBEq, Int.reduceToNat, Int.reduceNeg, Int.reduceLE, Int.reduceLT, Int.reduceBEq, Int.reduceBNe, Int.reduceEq, eq_self, reduceCtorEq]
 refine callW_rel (f12 N O false false hl ho) ?_
 rintro R O' ⟨b, rfl, hb, rfl⟩
 simp -implicitDefEqProofs (maxSteps := 4000000) (disch := omega) only [push_cast, c10, Nat.reduceAdd, Nat.reduceSub, Nat.reduceMul, Nat.reduceBEq, Int.reduceToNat, Int.reduceNeg, Int.reduceLE, Int.reduceLT, Int.reduceBEq, Int.reduceBNe, Int.reduceEq, eq_self, reduceCtorEq]
 refine ⟨fun h => ?_, fun h => ?_⟩
 ·refine callW_eq _ _ (f13) ?_
  simp -implicitDefEqProofs (maxSteps := 4000000) (disch := omega) only [push_cast, c10, Nat.reduceAdd, Nat.reduceSub, Nat.reduceMul, Nat.reduceBEq, Int.reduceToNat, Int.reduceNeg, Int.reduceLE, Int.reduceLT, Int.reduceBEq, Int.reduceBNe, Int.reduceEq, eq_self, reduceCtorEq]
 have h := hb h
 have hb2 := nb h
 refine callW_rel (f32 N O false false s hb2.1.1 hb2.1.2 hb2.2.1 hb2.2.2) ?_
 rintro R O' ⟨w, t, e, nz, hR, rfl, rfl⟩
 simp -implicitDefEqProofs (maxSteps := 4000000) (disch := omega) only [push_cast, c10, Nat.reduceAdd, Nat.reduceSub, Nat.reduceMul, Nat.reduceBEq, Int.reduceToNat, Int.reduceNeg, Int.reduceLE, Int.reduceLT, Int.reduceBEq, Int.reduceBNe, Int.reduceEq, eq_self, reduceCtorEq]
 refine ⟨fun he => ?_, fun he => ?_⟩
 ·refine callW_eq _ _ (f13) ?_
  simp -implicitDefEqProofs (maxSteps := 4000000) (disch := omega) only [push_cast, c10, Nat.reduceAdd, Nat.reduceSub, Nat.reduceMul, Nat.reduceBEq, Int.reduceToNat, Int.reduceNeg, Int.reduceLE, Int.reduceLT, Int.reduceBEq, Int.reduceBNe, Int.reduceEq, eq_self, reduceCtorEq]
 have h4 : vmB N O = true ∧ (0 ≤ s ∧ s < N.length) ∧ ∃ k P, k = (N.getD 0 []).length ∧ VM N O k ∧ cntT N O k = N.length ∧ (∃ j, Chn N O k s j w t P) := by
  rcases hR with ⟨_, h, _⟩ | ⟨_, _, h, _⟩ | ⟨_, _, _, h, _⟩ | ⟨hv, hs, hm, _, j, P, hc, _⟩
  ·omega
  ·omega
  ·omega
  ·exact ⟨hv, hs, _, P, rfl, vmB_iff.1 hv, hm, j, hc⟩
 have h5 : t = leadG N s w ∧ wordB (N.getD 0 []).length w = true ∧ w.length ≤ N.length * (N.length - 1) / 2 ∧ N.length ≤ 60 ∧ 1 ≤ N.length := by
  obtain ⟨hv, hs, k, P, rfl, hV, hm, j, hc⟩ := h4
  have hok := hc.ok hV hm hs
  have hbd := hok.bud
  have hba := budG_all (n := N.length)
  have hn := hV.v.n2
  have hn1 := hV.v.n1
  have hnn : N.length * (N.length - 1) ≤ 60 * 59 := Nat.mul_le_mul hn (by omega)
  exact ⟨hok.at_, wordB_iff.2 ⟨by omega, hok.word⟩, by omega, hn, hn1⟩
 subst he
 refine callW_rel (f28 N O false false nz s w hb2.1.1 hb2.1.2 hb2.2.1 hb2.2.2 (by have := h5.2.2.1; have := h5.2.2.2.1; have : N.length * (N.length - 1) ≤ 60 * 59 := Nat.mul_le_mul h5.2.2.2.1 (by omega); omega)) ?_
 rintro R O' ⟨a, p, f, hf, rfl, rfl⟩
 simp -implicitDefEqProofs (maxSteps := 4000000) (disch := omega) only [push_cast, c10, Nat.reduceAdd, Nat.reduceSub, Nat.reduceMul, Nat.reduceBEq, Int.reduceToNat, Int.reduceNeg, Int.reduceLE, Int.reduceLT, Int.reduceBEq, Int.reduceBNe, Int.reduceEq, eq_self, reduceCtorEq]
 have h6 : f = 0 ∧ p = leadG N s w := by
  obtain ⟨hv, hs, _⟩ := h4
  rcases hf with ⟨h1, _⟩ | ⟨_, h1, _⟩ | ⟨_, _, h1, h2, _⟩
  ·rw [hv] at h1; cases h1
  ·exact absurd ⟨hs, h5.2.1⟩ h1
  ·exact ⟨h1, h2⟩
 have e1 := h6.1
 subst e1
 have n1 : ((N.length : Int) - 1) = ((N.length - 1 : Nat) : Int) := by omega
 have m1 : N.length * (N.length - 1) ≤ 60 * 59 := Nat.mul_le_mul h5.2.2.2.1 (by omega)
 have a1 : IntKind.i64.wrap ((N.length : Int) * ((N.length : Int) - 1)) = ((N.length * (N.length - 1) : Nat) : Int) := by
  rw [n1, ← Int.natCast_mul]; exact wrap_nat (by omega) (by omega)
 have a4 : IntKind.i64.wrap (((N.length * (N.length - 1) : Nat) : Int).tdiv 2) = ((N.length * (N.length - 1) / 2 : Nat) : Int) := by
  rw [Int.tdiv_eq_ediv_of_nonneg (by omega)]
  rw [show (((N.length * (N.length - 1) : Nat) : Int) / 2) = ((N.length * (N.length - 1) / 2 : Nat) : Int) by omega]
  exact wrap_nat (by omega) (by omega)
 rw [a1, a4]
 refine ⟨fun _ => ⟨fun _ => ⟨fun _ => ?_, fun h => by have := h5.2.2.1; omega⟩, fun h => absurd (h6.2.trans h5.1.symm) h⟩, fun h => absurd rfl h⟩
 refine callW_eq _ _ (f13) ?_
 simp -implicitDefEqProofs (maxSteps := 4000000) (disch := omega) only [push_cast, c10, Nat.reduceAdd, Nat.reduceSub, Nat.reduceMul, Nat.reduceBEq, Int.reduceToNat, Int.reduceNeg, Int.reduceLE, Int.reduceLT, Int.reduceBEq, Int.reduceBNe, Int.reduceEq, eq_self, reduceCtorEq]
theorem lawHomeSeek (N O : List (List Int)) (s : Int) (hl : N.length ≤ 4611686018427387904) (_ : ∀ r ∈ N, r.length ≤ 4611686018427387904) (ho : O.length ≤ 4611686018427387904) (_ : ∀ r ∈ O, r.length ≤ 4611686018427387904) :
  ACall Try.prog 10 [.agg [.pay (.rows (N)) (false), .pay (.rows (O)) (false)], .int .i64 s] (fun r objs => r = .bool true ∧ objs = []) := f10 N O s hl ho
end Go.AM
end

/-
  Contract of HomeFinds; conditions in each statement.
-/
import Derived.Test.YtkpoffjimfiabaaS7
import Derived.Test.YtkpoffjimfiabaaS9
import Derived.Test.YtkpoffjimfiabaaS8a
import Derived.Test.YtkpoffjimfiabaaP6
set_option linter.unusedVariables false
set_option linter.unusedSimpArgs false
set_option linter.unusedSectionVars false
set_option linter.unnecessarySimpa false

section
namespace Go.AM
open Go Go.Proofs Go.Sort
section
variable {N O : List (List Int)} {k : Nat}
theorem min_pair (hV : VM N O k) (hmin : cntT N O k = N.length) {p q : Nat} (hp : p < N.length) (hq : q < N.length) (hpq : p ≠ q) : ∃ w : List Int, w.length ≤ N.length - 1 ∧ (∀ c ∈ w, 0 ≤ c ∧ c < (k : Int)) ∧ outsG N O p w ≠ outsG N O q w := by
 have key : ∀ p q : Nat, p < q → q < N.length → ∃ w : List Int, w.length ≤ N.length - 1 ∧ (∀ c ∈ w, 0 ≤ c ∧ c < (k : Int)) ∧ outsG N O p w ≠ outsG N O q w := fun p q hpq hq => by
  obtain ⟨a, ha, b, hb, hab, w, w1, w2, w3⟩ := moore_set (P := [(p : Int), (q : Int)]) hV.cm hmin (by simp; omega) (by simp; omega) (by simp)
  have hw1 : w.length ≤ N.length - 1 := by simp at w1; omega
  have : (a = p ∧ b = q) ∨ (a = q ∧ b = p) := by
   simp at ha hb
   omega
  rcases this with ⟨rfl, rfl⟩ | ⟨rfl, rfl⟩
  ·exact ⟨w, hw1, w2, w3⟩
  ·exact ⟨w, hw1, w2, w3.symm⟩
 rcases Nat.lt_trichotomy p q with h | h | h
 ·exact key p q h hq
 ·exact absurd h hpq
 ·obtain ⟨w, w1, w2, w3⟩ := key q p h hp
  exact ⟨w, w1, w2, w3.symm⟩
theorem min_allD (hV : VM N O k) (hmin : cntT N O k = N.length) : allD N O k := fun p q hp hq hpq => by
 obtain ⟨w, _, w2, w3⟩ := min_pair hV hmin hp hq hpq
 exact ⟨w, w2, .inl w3⟩
theorem min_D (hV : VM N O k) (hmin : cntT N O k = N.length) {D : Nat → Nat → Nat} (hD : TabOk N O true k D) (p q : Nat) : D p q ≤ N.length - 1 := by
 by_cases h : D p q = 0
 ·omega
 ·obtain ⟨hp, hq, hpq⟩ := hD.rng p q h
  obtain ⟨w, w1, w2, w3⟩ := min_pair hV hmin hp hq hpq
  have := (dec_some hV hD w p q hp hq hpq w2 (.inl w3)).2
  omega
end
def c4 : VCfg := ⟨⟨[], [], [], [0, 1, 2, 3, 4, 5, 6, 8, 15, 29, 60, 77]⟩, [], [], []⟩
set_option maxHeartbeats 4000000 in
set_option maxRecDepth 100000 in
theorem f4 (N O : List (List Int)) (hl : N.length ≤ 4611686018427387904) (ho : O.length ≤ 4611686018427387904) :
  ACall Try.prog 4 [.agg [.pay (.rows (N)) (false), .pay (.rows (O)) (false)]] (fun r objs => r = .bool true ∧ objs = []) := by
 refine acall_intro (tyP_ok _) c4 2000 [.tmp 2] Try.func4 rfl (by rfl) rfl (by kernel_rfl) ?_
 unfold Try.f4
 simp -implicitDefEqProofs (maxSteps := 4000000) (disch := omega) only [push_cast, c4, Nat.reduceAdd, Nat.reduceSub, Nat.reduceMul, Nat.reduceBEq, Int.reduceToNat, Int.reduceNeg, Int.reduceLE, Int.reduceLT, Int.reduceBEq, Int.reduceBNe, Int.reduceEq, eq_self, reduceCtorEq]
 refine callW_rel (f12 N O false false hl ho) ?_
 rintro R O' ⟨b, rfl, hb, rfl⟩
 simp -implicitDefEqProofs (maxSteps := 4000000) (disch := omega) only [push_cast, c4, Nat.reduceAdd, Nat.reduceSub, Nat.reduceMul, Nat.reduceBEq, Int.reduceToNat, Int.reduceNeg, Int.reduceLE, Int.reduceLT, Int.reduceBEq, Int.reduceBNe, Int.reduceEq, eq_self, reduceCtorEq]
 refine ⟨fun h => ?_, fun h => ?_⟩
 ·refine callW_eq _ _ (f13) ?_
  simp -implicitDefEqProofs (maxSteps := 4000000) (disch := omega) only [push_cast, c4, Nat.reduceAdd, Nat.reduceSub, Nat.reduceMul, Nat.reduceBEq, Int.reduceToNat, Int.reduceNeg, Int.reduceLE, Int.reduceLT, Int.reduceBEq, Int.reduceBNe, Int.reduceEq, eq_self, reduceCtorEq]
 have h := hb h
 have hb2 := nb h
 refine callW_rel (f21 N O false false hb2.1.1 hb2.1.2 hb2.2.1 hb2.2.2) ?_
 rintro R O' ⟨w, e, nz, hR, rfl, rfl⟩
 simp -implicitDefEqProofs (maxSteps := 4000000) (disch := omega) only [push_cast, c4, Nat.reduceAdd, Nat.reduceSub, Nat.reduceMul, Nat.reduceBEq, Int.reduceToNat, Int.reduceNeg, Int.reduceLE, Int.reduceLT, Int.reduceBEq, Int.reduceBNe, Int.reduceEq, eq_self, reduceCtorEq]
 refine callW_eq _ _ (f16 N O false false hb2.1.1 hb2.1.2 hb2.2.1 hb2.2.2) ?_
 simp -implicitDefEqProofs (maxSteps := 4000000) (disch := omega) only [push_cast, c4, Nat.reduceAdd, Nat.reduceSub, Nat.reduceMul, Nat.reduceBEq, Int.reduceToNat, Int.reduceNeg, Int.reduceLE, Int.reduceLT, Int.reduceBEq, Int.reduceBNe, Int.reduceEq, eq_self, reduceCtorEq]
 refine ⟨fun hv => ?_, fun hv => ?_⟩
 ·rcases hR with ⟨_, rfl, rfl⟩ | ⟨h1, _⟩ | ⟨h1, _⟩
  ·refine ⟨fun _ => ⟨fun _ => ?_, fun h => absurd rfl h⟩, fun h => absurd rfl h⟩
   refine callW_eq _ _ (f13) ?_
   simp -implicitDefEqProofs (maxSteps := 4000000) (disch := omega) only [push_cast, c4, Nat.reduceAdd, Nat.reduceSub, Nat.reduceMul, Nat.reduceBEq, Int.reduceToNat, Int.reduceNeg, Int.reduceLE, Int.reduceLT, Int.reduceBEq, Int.reduceBNe, Int.reduceEq, eq_self, reduceCtorEq]
  ·rw [hv] at h1; cases h1
  ·rw [hv] at h1; cases h1
 have hV := vmB_iff.1 hv
 have hn1 := hV.v.n1
 have hn2 := hV.v.n2
 refine callW_rel (f22 N O false false _ hV) ?_
 rintro R O' ⟨t, ht, rfl, rfl⟩
 simp -implicitDefEqProofs (maxSteps := 4000000) (disch := omega) only [push_cast, c4, Nat.reduceAdd, Nat.reduceSub, Nat.reduceMul, Nat.reduceBEq, Int.reduceToNat, Int.reduceNeg, Int.reduceLE, Int.reduceLT, Int.reduceBEq, Int.reduceBNe, Int.reduceEq, eq_self, reduceCtorEq]
 generalize hk : (N.getD 0 []).length = k at *
 have hcase0 : t = false → e = 4 ∧ w = [] ∧ cntT N O k ≠ N.length := fun hf => by
  have hna : ¬ allD N O k := fun ha => by rw [ht.2 ha] at hf; cases hf
  unfold HomeR at hR
  rw [hk] at hR
  rcases hR with ⟨h1, _⟩ | ⟨_, _, h2, h3⟩ | ⟨_, h1, _⟩
  ·rw [hv] at h1; cases h1
  ·exact ⟨h2, h3, fun hm => hna (min_allD hV hm)⟩
  ·exact absurd h1 hna
 have hcase1 : t = true → (e = 3 ∧ w = [] ∧ 43 < N.length ∧ cntT N O k ≠ N.length) ∨ (e = 0 ∧ homW N O w ∧ (∀ c ∈ w, 0 ≤ c ∧ c < (k : Int)) ∧ w.length * 2 ≤ (N.length - 1) * N.length * (N.length - 1) ∧ (cntT N O k = N.length → w.length ≤ (N.length - 1) * (N.length - 1)) ∧ w.length ≤ 40000) := fun htt => by
  have ha := ht.1 htt
  unfold HomeR at hR
  rw [hk] at hR
  rcases hR with ⟨h1, _⟩ | ⟨_, h1, _⟩ | ⟨_, _, w', w1, w2, ⟨D, hD, hB⟩, h3⟩
  ·rw [hv] at h1; cases h1
  ·exact absurd ha h1
  ·have b1 := hB (N.length * (N.length - 1) / 2) (fun p q => tab_pairs hV hD)
   have b2 : cntT N O k = N.length → w'.length ≤ (N.length - 1) * (N.length - 1) := fun hm => hB _ (fun p q => min_D hV hm hD p q)
   have b3 : w'.length * 2 ≤ (N.length - 1) * N.length * (N.length - 1) := by
    have h1 : N.length * (N.length - 1) / 2 * 2 ≤ N.length * (N.length - 1) := Nat.div_mul_le_self _ _
    have h2 := Nat.mul_le_mul_left (N.length - 1) h1
    rw [← Nat.mul_assoc, ← Nat.mul_assoc] at h2
    have h3 := Nat.mul_le_mul_right 2 b1
    exact Nat.le_trans h3 h2
   rcases h3 with ⟨h4, rfl, rfl⟩ | ⟨h4, rfl, rfl⟩
   ·refine .inl ⟨rfl, rfl, ?_, fun hm => ?_⟩
    ·refine Nat.lt_of_not_le fun h43 => ?_
     have h5 : (N.length - 1) * N.length * (N.length - 1) ≤ 42 * 43 * 42 := Nat.mul_le_mul (Nat.mul_le_mul (by omega) h43) (by omega)
     omega
    ·have h5 : (N.length - 1) * (N.length - 1) ≤ 59 * 59 := Nat.mul_le_mul (by omega) (by omega)
     have := b2 hm
     omega
   ·exact .inr ⟨rfl, w1, w2, b3, b2, h4⟩
 refine ⟨fun hf => ?_, fun htt => ⟨fun he3 => ?_, fun hne => ?_⟩⟩
 ·have h1 := hcase0 hf
  have e1 := h1.1
  have e2 := h1.2.1
  subst e1
  subst e2
  refine ⟨fun _ => ⟨fun _ => ?_, fun h => absurd rfl h⟩, fun h => absurd rfl h⟩
  refine callW_eq _ _ (f23 N O false false _ hV) ?_
  simp -implicitDefEqProofs (maxSteps := 4000000) (disch := omega) only [push_cast, c4, Nat.reduceAdd, Nat.reduceSub, Nat.reduceMul, Nat.reduceBEq, Int.reduceToNat, Int.reduceNeg, Int.reduceLE, Int.reduceLT, Int.reduceBEq, Int.reduceBNe, Int.reduceEq, eq_self, reduceCtorEq]
  refine ⟨fun _ => ?_, fun h => absurd h h1.2.2⟩
  refine callW_eq _ _ (f13) ?_
  simp -implicitDefEqProofs (maxSteps := 4000000) (disch := omega) only [push_cast, c4, Nat.reduceAdd, Nat.reduceSub, Nat.reduceMul, Nat.reduceBEq, Int.reduceToNat, Int.reduceNeg, Int.reduceLE, Int.reduceLT, Int.reduceBEq, Int.reduceBNe, Int.reduceEq, eq_self, reduceCtorEq]
 ·have h1 : w = [] ∧ 43 < N.length ∧ cntT N O k ≠ N.length := by
   rcases hcase1 htt with ⟨_, h⟩ | ⟨h, _⟩
   ·exact h
   ·omega
  have e2 := h1.1
  subst e2
  refine ⟨fun _ => ?_, fun h => by omega⟩
  refine callW_eq _ _ (f23 N O false false _ hV) ?_
  simp -implicitDefEqProofs (maxSteps := 4000000) (disch := omega) only [push_cast, c4, Nat.reduceAdd, Nat.reduceSub, Nat.reduceMul, Nat.reduceBEq, Int.reduceToNat, Int.reduceNeg, Int.reduceLE, Int.reduceLT, Int.reduceBEq, Int.reduceBNe, Int.reduceEq, eq_self, reduceCtorEq]
  refine ⟨fun _ => ?_, fun h => absurd h h1.2.2⟩
  refine callW_eq _ _ (f13) ?_
  simp -implicitDefEqProofs (maxSteps := 4000000) (disch := omega) only [push_cast, c4, Nat.reduceAdd, Nat.reduceSub, Nat.reduceMul, Nat.reduceBEq, Int.reduceToNat, Int.reduceNeg, Int.reduceLE, Int.reduceLT, Int.reduceBEq, Int.reduceBNe, Int.reduceEq, eq_self, reduceCtorEq]
 ·have h1 : e = 0 ∧ homW N O w ∧ (∀ c ∈ w, 0 ≤ c ∧ c < (k : Int)) ∧ w.length * 2 ≤ (N.length - 1) * N.length * (N.length - 1) ∧ (cntT N O k = N.length → w.length ≤ (N.length - 1) * (N.length - 1)) ∧ w.length ≤ 40000 := by
   rcases hcase1 htt with ⟨h, _⟩ | h
   ·omega
   ·exact h
  have e2 := h1.1
  subst e2
  refine callW_eq _ _ (f23 N O false false _ hV) ?_
  simp -implicitDefEqProofs (maxSteps := 4000000) (disch := omega) only [push_cast, c4, Nat.reduceAdd, Nat.reduceSub, Nat.reduceMul, Nat.reduceBEq, Int.reduceToNat, Int.reduceNeg, Int.reduceLE, Int.reduceLT, Int.reduceBEq, Int.reduceBNe, Int.reduceEq, eq_self, reduceCtorEq]
  have n1 : ((N.length : Int) - 1) = ((N.length - 1 : Nat) : Int) := by omega
  have m1 : (N.length - 1) * (N.length - 1) ≤ 59 * 59 := Nat.mul_le_mul (by omega) (by omega)
  have m2 : (N.length - 1) * N.length ≤ 59 * 60 := Nat.mul_le_mul (by omega) (by omega)
  have m3 : (N.length - 1) * N.length * (N.length - 1) ≤ 59 * 60 * 59 := Nat.mul_le_mul m2 (by omega)
  have a1 : IntKind.i64.wrap (((N.length : Int) - 1) * ((N.length : Int) - 1)) = (((N.length - 1) * (N.length - 1) : Nat) : Int) := by
   rw [n1, ← Int.natCast_mul]; exact wrap_nat (by omega) (by omega)
  have a2 : IntKind.i64.wrap (((N.length : Int) - 1) * (N.length : Int)) = (((N.length - 1) * N.length : Nat) : Int) := by
   rw [n1, ← Int.natCast_mul]; exact wrap_nat (by omega) (by omega)
  have a3 : IntKind.i64.wrap ((((N.length - 1) * N.length : Nat) : Int) * ((N.length : Int) - 1)) = (((N.length - 1) * N.length * (N.length - 1) : Nat) : Int) := by
   rw [n1, ← Int.natCast_mul]; exact wrap_nat (by omega) (by omega)
  have a4 : IntKind.i64.wrap ((((N.length - 1) * N.length * (N.length - 1) : Nat) : Int).tdiv 2) = (((N.length - 1) * N.length * (N.length - 1) / 2 : Nat) : Int) := by
   rw [Int.tdiv_eq_ediv_of_nonneg (by omega)]
   rw [show ((((N.length - 1) * N.length * (N.length - 1) : Nat) : Int) / 2) = (((N.length - 1) * N.length * (N.length - 1) / 2 : Nat) : Int) by omega]
   exact wrap_nat (by omega) (by omega)
  rw [a1, a2, a3, a4]
  refine ⟨fun hm => ⟨fun _ => ?_, fun h => by have := h1.2.2.2.2.1 hm; omega⟩, fun hm => ⟨fun _ => ?_, fun h => by have := h1.2.2.2.1; omega⟩⟩
  ·refine callW_eq _ _ (f18 N O false false (by omega)) ?_
   simp -implicitDefEqProofs (maxSteps := 4000000) (disch := omega) only [push_cast, c4, Nat.reduceAdd, Nat.reduceSub, Nat.reduceMul, Nat.reduceBEq, Int.reduceToNat, Int.reduceNeg, Int.reduceLE, Int.reduceLT, Int.reduceBEq, Int.reduceBNe, Int.reduceEq, eq_self, reduceCtorEq]
   rw [hk]
   refine callW_eq _ _ (f17 k w nz (by omega)) ?_
   simp -implicitDefEqProofs (maxSteps := 4000000) (disch := omega) only [push_cast, c4, Nat.reduceAdd, Nat.reduceSub, Nat.reduceMul, Nat.reduceBEq, Int.reduceToNat, Int.reduceNeg, Int.reduceLE, Int.reduceLT, Int.reduceBEq, Int.reduceBNe, Int.reduceEq, eq_self, reduceCtorEq]
   refine ⟨fun _ => ?_, fun h => by rw [wordB_iff.2 ⟨h1.2.2.2.2.2, h1.2.2.1⟩] at h; cases h⟩
   refine callW_eq _ _ (f19 N O false false nz w k hV h1.2.2.1 (by omega)) ?_
   simp -implicitDefEqProofs (maxSteps := 4000000) (disch := omega) only [push_cast, c4, Nat.reduceAdd, Nat.reduceSub, Nat.reduceMul, Nat.reduceBEq, Int.reduceToNat, Int.reduceNeg, Int.reduceLE, Int.reduceLT, Int.reduceBEq, Int.reduceBNe, Int.reduceEq, eq_self, reduceCtorEq]
   refine ⟨fun _ => ?_, fun h => by rw [(homB_iff hV h1.2.2.1).2 h1.2.1] at h; cases h⟩
   refine callW_eq _ _ (f13) ?_
   simp -implicitDefEqProofs (maxSteps := 4000000) (disch := omega) only [push_cast, c4, Nat.reduceAdd, Nat.reduceSub, Nat.reduceMul, Nat.reduceBEq, Int.reduceToNat, Int.reduceNeg, Int.reduceLE, Int.reduceLT, Int.reduceBEq, Int.reduceBNe, Int.reduceEq, eq_self, reduceCtorEq]
  ·refine callW_eq _ _ (f18 N O false false (by omega)) ?_
   simp -implicitDefEqProofs (maxSteps := 4000000) (disch := omega) only [push_cast, c4, Nat.reduceAdd, Nat.reduceSub, Nat.reduceMul, Nat.reduceBEq, Int.reduceToNat, Int.reduceNeg, Int.reduceLE, Int.reduceLT, Int.reduceBEq, Int.reduceBNe, Int.reduceEq, eq_self, reduceCtorEq]
   rw [hk]
   refine callW_eq _ _ (f17 k w nz (by omega)) ?_
   simp -implicitDefEqProofs (maxSteps := 4000000) (disch := omega) only [push_cast, c4, Nat.reduceAdd, Nat.reduceSub, Nat.reduceMul, Nat.reduceBEq, Int.reduceToNat, Int.reduceNeg, Int.reduceLE, Int.reduceLT, Int.reduceBEq, Int.reduceBNe, Int.reduceEq, eq_self, reduceCtorEq]
   refine ⟨fun _ => ?_, fun h => by rw [wordB_iff.2 ⟨h1.2.2.2.2.2, h1.2.2.1⟩] at h; cases h⟩
   refine callW_eq _ _ (f19 N O false false nz w k hV h1.2.2.1 (by omega)) ?_
   simp -implicitDefEqProofs (maxSteps := 4000000) (disch := omega) only [push_cast, c4, Nat.reduceAdd, Nat.reduceSub, Nat.reduceMul, Nat.reduceBEq, Int.reduceToNat, Int.reduceNeg, Int.reduceLE, Int.reduceLT, Int.reduceBEq, Int.reduceBNe, Int.reduceEq, eq_self, reduceCtorEq]
   refine ⟨fun _ => ?_, fun h => by rw [(homB_iff hV h1.2.2.1).2 h1.2.1] at h; cases h⟩
   refine callW_eq _ _ (f13) ?_
   simp -implicitDefEqProofs (maxSteps := 4000000) (disch := omega) only [push_cast, c4, Nat.reduceAdd, Nat.reduceSub, Nat.reduceMul, Nat.reduceBEq, Int.reduceToNat, Int.reduceNeg, Int.reduceLE, Int.reduceLT, Int.reduceBEq, Int.reduceBNe, Int.reduceEq, eq_self, reduceCtorEq]
theorem lawHomeFinds (N O : List (List Int)) (hl : N.length ≤ 4611686018427387904) (_ : ∀ r ∈ N, r.length ≤ 4611686018427387904) (ho : O.length ≤ 4611686018427387904) (_ : ∀ r ∈ O, r.length ≤ 4611686018427387904) :
  ACall Try.prog 4 [.agg [.pay (.rows (N)) (false), .pay (.rows (O)) (false)]] (fun r objs => r = .bool true ∧ objs = []) := f4 N O hl ho
end Go.AM
end

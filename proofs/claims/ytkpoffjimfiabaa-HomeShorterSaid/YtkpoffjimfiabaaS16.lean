/-
  Contract of HomeShorter; conditions in each statement.
-/
import Derived.Test.YtkpoffjimfiabaaS7
import Derived.Test.YtkpoffjimfiabaaS6
import Derived.Test.YtkpoffjimfiabaaP8
set_option linter.unusedVariables false
set_option linter.unusedSimpArgs false
set_option linter.unusedSectionVars false
set_option linter.unnecessarySimpa false

section
namespace Go.AM
open Go Go.Proofs Go.Sort
def ahdB (a b : List Int) : Bool := decide (a.length < b.length) || (decide (a.length = b.length) && befB a b)
theorem ahd_no {u w : List Int} (h : leB w u) : ahdB u w = false := by
 cases e : ahdB u w with
 | false => rfl
 | true =>
  unfold ahdB at e
  simp only [Bool.or_eq_true, Bool.and_eq_true, decide_eq_true_eq] at e
  exact absurd h (not_leB_of (by omega) fun hl => by
   rcases e with e | e
   ·omega
   ·exact e.2)
theorem telW_hom' {N O : List (List Int)} {u : List Int} (h : telW N O u) : homW N O u := fun s t hs ht e => by rw [h s t hs ht e]
section
variable {N O : List (List Int)} {k : Nat}
theorem SeaR.cases {tl : Bool} {w : List Int} {e : Int} (hv : vmB N O = true) (hV : VM N O k) (hk : (N.getD 0 []).length = k) (hn : N.length ≤ 7) (h : SeaR N O tl w e) :
  (e = 4 ∧ w = [] ∧ ∀ v : List Int, (∀ c ∈ v, 0 ≤ c ∧ c < (k : Int)) → ¬ okW N O tl v) ∨ (e = 0 ∧ (∀ c ∈ w, 0 ≤ c ∧ c < (k : Int)) ∧ okW N O tl w ∧ (∀ v : List Int, (∀ c ∈ v, 0 ≤ c ∧ c < (k : Int)) → okW N O tl v → leB w v) ∧ w.length ≤ 39217) := by
 unfold SeaR at h
 rw [hk] at h
 rcases h with ⟨h, _⟩ | ⟨_, h, _⟩ | ⟨_, _, h1, h2, h3⟩ | ⟨_, _, h1, h2, h3, h4⟩
 ·rw [hv] at h; cases h
 ·omega
 ·exact .inl ⟨h1, h2, h3⟩
 ·exact .inr ⟨h1, h2, h3, h4, sea_short hV hn h2 h3 h4⟩
theorem HomeR.cases {w : List Int} {e : Int} (hv : vmB N O = true) (hV : VM N O k) (hk : (N.getD 0 []).length = k) (hn : N.length ≤ 12) (h : HomeR N O w e) :
  (e = 4 ∧ w = [] ∧ ¬ allD N O k) ∨ (e = 0 ∧ homW N O w ∧ (∀ c ∈ w, 0 ≤ c ∧ c < (k : Int)) ∧ w.length ≤ 40000) := by
 unfold HomeR at h
 rw [hk] at h
 have hn1 := hV.v.n1
 rcases h with ⟨h, _⟩ | ⟨_, h, h1, h2⟩ | ⟨_, _, w', w1, w2, ⟨D, hD, hB⟩, h3⟩
 ·rw [hv] at h; cases h
 ·exact .inl ⟨h1, h2, h⟩
 ·have b1 := hB (N.length * (N.length - 1) / 2) (fun p q => tab_pairs hV hD)
  have b2 : (N.length - 1) * (N.length * (N.length - 1) / 2) ≤ 11 * (12 * 11) := Nat.mul_le_mul (by omega) (Nat.le_trans (Nat.div_le_self _ _) (Nat.mul_le_mul hn (by omega)))
  rcases h3 with ⟨h4, _⟩ | ⟨h4, rfl, rfl⟩
  ·omega
  ·exact .inr ⟨rfl, w1, w2, h4⟩
end
def c7 : VCfg := ⟨⟨[], [], [], [0, 1, 2, 4, 5, 6, 7, 8, 9, 10, 11, 12, 13, 14, 15, 16, 17, 18, 36, 66, 68, 98, 100, 141]⟩, [], [], []⟩
set_option maxHeartbeats 8000000 in
set_option maxRecDepth 100000 in
theorem f7 (N O : List (List Int)) (u : List Int) (hl : N.length ≤ 4611686018427387904) (ho : O.length ≤ 4611686018427387904) (hu : u.length ≤ 17592186044416) :
  ACall Try.prog 7 [.agg [.pay (.rows (N)) (false), .pay (.rows (O)) (false)], .pay (.ints .i64 u) false] (fun r objs => r = .bool true ∧ objs = []) := by
 refine acall_intro (tyP_ok _) c7 2000 [.tmp 4] Try.func7 rfl (by rfl) rfl (by kernel_rfl) ?_
 unfold Try.f7
 simp -implicitDefEqProofs (maxSteps := 4000000) (disch := omega) only [push_cast, c7, Nat.reduceAdd, Nat.reduceSub, Nat.reduceMul, Nat.reduceBEq, Int.reduceToNat, Int.reduceNeg, Int.reduceLE, Int.reduceLT, Int.reduceBEq, Int.reduceBNe, Int.reduceEq, eq_self, reduceCtorEq]
 refine ⟨fun h7 => ?_, fun h7 => ?_⟩
 ·refine callW_eq _ _ (f13) ?_
  simp -implicitDefEqProofs (maxSteps := 4000000) (disch := omega) only [push_cast, c7, Nat.reduceAdd, Nat.reduceSub, Nat.reduceMul, Nat.reduceBEq, Int.reduceToNat, Int.reduceNeg, Int.reduceLE, Int.reduceLT, Int.reduceBEq, Int.reduceBNe, Int.reduceEq, eq_self, reduceCtorEq]
 refine callW_rel (f12 N O false false hl ho) ?_
 rintro R O' ⟨b, rfl, hb, rfl⟩
 simp -implicitDefEqProofs (maxSteps := 4000000) (disch := omega) only [push_cast, c7, Nat.reduceAdd, Nat.reduceSub, Nat.reduceMul, Nat.reduceBEq, Int.reduceToNat, Int.reduceNeg, Int.reduceLE, Int.reduceLT, Int.reduceBEq, Int.reduceBNe, Int.reduceEq, eq_self, reduceCtorEq]
 refine ⟨fun h => ?_, fun h => ?_⟩
 ·refine callW_eq _ _ (f13) ?_
  simp -implicitDefEqProofs (maxSteps := 4000000) (disch := omega) only [push_cast, c7, Nat.reduceAdd, Nat.reduceSub, Nat.reduceMul, Nat.reduceBEq, Int.reduceToNat, Int.reduceNeg, Int.reduceLE, Int.reduceLT, Int.reduceBEq, Int.reduceBNe, Int.reduceEq, eq_self, reduceCtorEq]
 have h := hb h
 have hb2 := nb h
 refine callW_eq _ _ (f16 N O false false hb2.1.1 hb2.1.2 hb2.2.1 hb2.2.2) ?_
 simp -implicitDefEqProofs (maxSteps := 4000000) (disch := omega) only [push_cast, c7, Nat.reduceAdd, Nat.reduceSub, Nat.reduceMul, Nat.reduceBEq, Int.reduceToNat, Int.reduceNeg, Int.reduceLE, Int.reduceLT, Int.reduceBEq, Int.reduceBNe, Int.reduceEq, eq_self, reduceCtorEq]
 refine ⟨fun hv => ?_, fun hv => ⟨fun hu1 => ?_, fun hu1 => ?_⟩⟩
 ·refine callW_eq _ _ (f13) ?_
  simp -implicitDefEqProofs (maxSteps := 4000000) (disch := omega) only [push_cast, c7, Nat.reduceAdd, Nat.reduceSub, Nat.reduceMul, Nat.reduceBEq, Int.reduceToNat, Int.reduceNeg, Int.reduceLE, Int.reduceLT, Int.reduceBEq, Int.reduceBNe, Int.reduceEq, eq_self, reduceCtorEq]
 ·refine callW_eq _ _ (f13) ?_
  simp -implicitDefEqProofs (maxSteps := 4000000) (disch := omega) only [push_cast, c7, Nat.reduceAdd, Nat.reduceSub, Nat.reduceMul, Nat.reduceBEq, Int.reduceToNat, Int.reduceNeg, Int.reduceLE, Int.reduceLT, Int.reduceBEq, Int.reduceBNe, Int.reduceEq, eq_self, reduceCtorEq]
 have hV := vmB_iff.1 hv
 have hn1 := hV.v.n1
 have hn7 : N.length ≤ 7 := by omega
 refine callW_rel (f25 N O false false hb2.1.1 hb2.1.2 hb2.2.1 hb2.2.2) ?_
 rintro R O' ⟨w, e, nz, hS, rfl, rfl⟩
 simp -implicitDefEqProofs (maxSteps := 4000000) (disch := omega) only [push_cast, c7, Nat.reduceAdd, Nat.reduceSub, Nat.reduceMul, Nat.reduceBEq, Int.reduceToNat, Int.reduceNeg, Int.reduceLE, Int.reduceLT, Int.reduceBEq, Int.reduceBNe, Int.reduceEq, eq_self, reduceCtorEq]
 refine callW_rel (f24 N O false false hb2.1.1 hb2.1.2 hb2.2.1 hb2.2.2) ?_
 rintro R O' ⟨v, f, nz2, hT, rfl, rfl⟩
 simp -implicitDefEqProofs (maxSteps := 4000000) (disch := omega) only [push_cast, c7, Nat.reduceAdd, Nat.reduceSub, Nat.reduceMul, Nat.reduceBEq, Int.reduceToNat, Int.reduceNeg, Int.reduceLE, Int.reduceLT, Int.reduceBEq, Int.reduceBNe, Int.reduceEq, eq_self, reduceCtorEq]
 refine callW_rel (f21 N O false false hb2.1.1 hb2.1.2 hb2.2.1 hb2.2.2) ?_
 rintro R O' ⟨a, g, nz3, hH, rfl, rfl⟩
 simp -implicitDefEqProofs (maxSteps := 4000000) (disch := omega) only [push_cast, c7, Nat.reduceAdd, Nat.reduceSub, Nat.reduceMul, Nat.reduceBEq, Int.reduceToNat, Int.reduceNeg, Int.reduceLE, Int.reduceLT, Int.reduceBEq, Int.reduceBNe, Int.reduceEq, eq_self, reduceCtorEq]
 generalize hk : (N.getD 0 []).length = k at *
 have hS := hS.cases hv hV hk hn7
 have hT := hT.cases hv hV hk hn7
 have hH := hH.cases hv hV hk (by omega)
 have hC : (e = 4 ∧ g = 4 ∧ f = 4) ∨ (e = 0 ∧ g = 0 ∧ w.length ≤ a.length ∧ f = 4) ∨ (e = 0 ∧ g = 0 ∧ w.length ≤ a.length ∧ f = 0 ∧ w.length ≤ v.length) := by
  rcases hS with ⟨rfl, _, s3⟩ | ⟨rfl, s2, s3, s4, _⟩
  ·refine .inl ⟨rfl, ?_, ?_⟩
   ·rcases hH with ⟨h, _⟩ | ⟨_, h1, h2, _⟩
    ·exact h
    ·exact absurd h1 (s3 a h2)
   ·rcases hT with ⟨h, _⟩ | ⟨_, h1, h2, _⟩
    ·exact h
    ·exact absurd (telW_hom' h2) (s3 v h1)
  ·have hg : g = 0 ∧ w.length ≤ a.length := by
    rcases hH with ⟨_, _, h⟩ | ⟨h0, h1, h2, _⟩
    ·exact absurd (hom_allD s3 s2) h
    ·exact ⟨h0, leB_len (s4 a h2 h1)⟩
   rcases hT with ⟨h, _⟩ | ⟨h0, h1, h2, _⟩
   ·exact .inr (.inl ⟨rfl, hg.1, hg.2, h⟩)
   ·exact .inr (.inr ⟨rfl, hg.1, hg.2, h0, leB_len (s4 v h1 (telW_hom' h2))⟩)
 have hSok : e = 0 → wordB k w = true ∧ homB N O w = true ∧ (wordB k u = true → homB N O u = true → ahdB u w = false) := fun h0 => by
  rcases hS with ⟨h1, _⟩ | ⟨_, s2, s3, s4, s5⟩
  ·omega
  ·exact ⟨wordB_iff.2 ⟨by omega, s2⟩, (homB_iff hV s2).2 s3, fun q1 q2 => ahd_no (s4 u (wordB_iff.1 q1).2 ((homB_iff hV (wordB_iff.1 q1).2).1 q2))⟩
 have hTok : f = 0 → wordB k v = true ∧ telB N O v = true ∧ (wordB k u = true → telB N O u = true → ahdB u v = false) := fun h0 => by
  rcases hT with ⟨h1, _⟩ | ⟨_, s2, s3, s4, s5⟩
  ·omega
  ·exact ⟨wordB_iff.2 ⟨by omega, s2⟩, (telB_iff hV s2).2 s3, fun q1 q2 => ahd_no (s4 u (wordB_iff.1 q1).2 ((telB_iff hV (wordB_iff.1 q1).2).1 q2))⟩
 have hwl : w.length ≤ 39217 := by
  rcases hS with ⟨_, rfl, _⟩ | ⟨_, _, _, _, h⟩
  ·simp
  ·exact h
 have hvl : v.length ≤ 39217 := by
  rcases hT with ⟨_, rfl, _⟩ | ⟨_, _, _, _, h⟩
  ·simp
  ·exact h
 have hth : wordB k u = true → telB N O u = true → homB N O u = true := fun q1 q2 => (homB_iff hV (wordB_iff.1 q1).2).2 (telW_hom' ((telB_iff hV (wordB_iff.1 q1).2).1 q2))
 have hU : wordB k u = false ∨ (wordB k u = true ∧ homB N O u = false ∧ telB N O u = false) ∨ (wordB k u = true ∧ homB N O u = true ∧ telB N O u = false) ∨ (wordB k u = true ∧ homB N O u = true ∧ telB N O u = true) := by
  generalize wordB k u = b1 at *
  generalize homB N O u = b2 at *
  generalize telB N O u = b3 at *
  cases b1 <;> cases b2 <;> cases b3 <;> simp at *
 clear hS hT hH
 refine Or.elim hC (fun hc => ?_) (fun hC => Or.elim hC (fun hc => ?_) (fun hc => ?_))
 ·have e1 := hc.1
  have e2 := hc.2.1
  have e3 := hc.2.2
  subst e1
  subst e2
  subst e3
  simp -implicitDefEqProofs (maxSteps := 4000000) (disch := omega) only [push_cast, c7, Nat.reduceAdd, Nat.reduceSub, Nat.reduceMul, Nat.reduceBEq, Int.reduceToNat, Int.reduceNeg, Int.reduceLE, Int.reduceLT, Int.reduceBEq, Int.reduceBNe, Int.reduceEq, eq_self, reduceCtorEq]
  refine callW_eq _ _ (f13) ?_
  simp -implicitDefEqProofs (maxSteps := 4000000) (disch := omega) only [push_cast, c7, Nat.reduceAdd, Nat.reduceSub, Nat.reduceMul, Nat.reduceBEq, Int.reduceToNat, Int.reduceNeg, Int.reduceLE, Int.reduceLT, Int.reduceBEq, Int.reduceBNe, Int.reduceEq, eq_self, reduceCtorEq]
 ·have e1 := hc.1
  have e2 := hc.2.1
  have e3 := hc.2.2.2
  have hwa := hc.2.2.1
  subst e1
  subst e2
  subst e3
  have hs := hSok rfl
  have k1 := Homes_ok N O false false nz w h (by omega) hv (by rw [hk]; exact hs.1)
  rw [hs.2.1] at k1
  simp -implicitDefEqProofs (maxSteps := 4000000) (disch := omega) only [push_cast, c7, Nat.reduceAdd, Nat.reduceSub, Nat.reduceMul, Nat.reduceBEq, Int.reduceToNat, Int.reduceNeg, Int.reduceLE, Int.reduceLT, Int.reduceBEq, Int.reduceBNe, Int.reduceEq, eq_self, reduceCtorEq]
  refine ⟨fun h => by omega, fun _ => ?_⟩
  refine Or.elim hU (fun q => ?_) (fun hU => Or.elim hU (fun q => ?_) (fun hU => Or.elim hU (fun q => ?_) (fun q => ?_)))
  ·have k2 := Homes_b2 N O false false false u h (by omega) hv (by rw [hk]; exact q)
   have t2 := Tells_b2 N O false false false u h (by omega) hv (by rw [hk]; exact q)
   refine callW_eq _ _ (k1) ?_
   simp -implicitDefEqProofs (maxSteps := 4000000) (disch := omega) only [push_cast, c7, Nat.reduceAdd, Nat.reduceSub, Nat.reduceMul, Nat.reduceBEq, Int.reduceToNat, Int.reduceNeg, Int.reduceLE, Int.reduceLT, Int.reduceBEq, Int.reduceBNe, Int.reduceEq, eq_self, reduceCtorEq]
   refine callW_eq _ _ (k2) ?_
   simp -implicitDefEqProofs (maxSteps := 4000000) (disch := omega) only [push_cast, c7, Nat.reduceAdd, Nat.reduceSub, Nat.reduceMul, Nat.reduceBEq, Int.reduceToNat, Int.reduceNeg, Int.reduceLE, Int.reduceLT, Int.reduceBEq, Int.reduceBNe, Int.reduceEq, eq_self, reduceCtorEq]
   refine callW_eq _ _ (f13) ?_
   simp -implicitDefEqProofs (maxSteps := 4000000) (disch := omega) only [push_cast, c7, Nat.reduceAdd, Nat.reduceSub, Nat.reduceMul, Nat.reduceBEq, Int.reduceToNat, Int.reduceNeg, Int.reduceLE, Int.reduceLT, Int.reduceBEq, Int.reduceBNe, Int.reduceEq, eq_self, reduceCtorEq]
  ·have k2 := Homes_ok N O false false false u h (by omega) hv (by rw [hk]; exact q.1)
   have t2 := Tells_ok N O false false false u h (by omega) hv (by rw [hk]; exact q.1)
   rw [q.2.1] at k2
   rw [q.2.2] at t2
   refine callW_eq _ _ (k1) ?_
   simp -implicitDefEqProofs (maxSteps := 4000000) (disch := omega) only [push_cast, c7, Nat.reduceAdd, Nat.reduceSub, Nat.reduceMul, Nat.reduceBEq, Int.reduceToNat, Int.reduceNeg, Int.reduceLE, Int.reduceLT, Int.reduceBEq, Int.reduceBNe, Int.reduceEq, eq_self, reduceCtorEq]
   refine callW_eq _ _ (k2) ?_
   simp -implicitDefEqProofs (maxSteps := 4000000) (disch := omega) only [push_cast, c7, Nat.reduceAdd, Nat.reduceSub, Nat.reduceMul, Nat.reduceBEq, Int.reduceToNat, Int.reduceNeg, Int.reduceLE, Int.reduceLT, Int.reduceBEq, Int.reduceBNe, Int.reduceEq, eq_self, reduceCtorEq]
   refine callW_eq _ _ (f13) ?_
   simp -implicitDefEqProofs (maxSteps := 4000000) (disch := omega) only [push_cast, c7, Nat.reduceAdd, Nat.reduceSub, Nat.reduceMul, Nat.reduceBEq, Int.reduceToNat, Int.reduceNeg, Int.reduceLE, Int.reduceLT, Int.reduceBEq, Int.reduceBNe, Int.reduceEq, eq_self, reduceCtorEq]
  ·have k2 := Homes_ok N O false false false u h (by omega) hv (by rw [hk]; exact q.1)
   have t2 := Tells_ok N O false false false u h (by omega) hv (by rw [hk]; exact q.1)
   rw [q.2.1] at k2
   rw [q.2.2] at t2
   refine callW_eq _ _ (k1) ?_
   simp -implicitDefEqProofs (maxSteps := 4000000) (disch := omega) only [push_cast, c7, Nat.reduceAdd, Nat.reduceSub, Nat.reduceMul, Nat.reduceBEq, Int.reduceToNat, Int.reduceNeg, Int.reduceLE, Int.reduceLT, Int.reduceBEq, Int.reduceBNe, Int.reduceEq, eq_self, reduceCtorEq]
   refine callW_eq _ _ (k2) ?_
   simp -implicitDefEqProofs (maxSteps := 4000000) (disch := omega) only [push_cast, c7, Nat.reduceAdd, Nat.reduceSub, Nat.reduceMul, Nat.reduceBEq, Int.reduceToNat, Int.reduceNeg, Int.reduceLE, Int.reduceLT, Int.reduceBEq, Int.reduceBNe, Int.reduceEq, eq_self, reduceCtorEq]
   have k3 := f27 u w false nz (by omega) (by omega)
   rw [show (decide (u.length < w.length) || (decide (u.length = w.length) && befB u w)) = false from hs.2.2 q.1 q.2.1] at k3
   refine callW_eq _ _ (k3) ?_
   simp -implicitDefEqProofs (maxSteps := 4000000) (disch := omega) only [push_cast, c7, Nat.reduceAdd, Nat.reduceSub, Nat.reduceMul, Nat.reduceBEq, Int.reduceToNat, Int.reduceNeg, Int.reduceLE, Int.reduceLT, Int.reduceBEq, Int.reduceBNe, Int.reduceEq, eq_self, reduceCtorEq]
   refine callW_eq _ _ (f13) ?_
   simp -implicitDefEqProofs (maxSteps := 4000000) (disch := omega) only [push_cast, c7, Nat.reduceAdd, Nat.reduceSub, Nat.reduceMul, Nat.reduceBEq, Int.reduceToNat, Int.reduceNeg, Int.reduceLE, Int.reduceLT, Int.reduceBEq, Int.reduceBNe, Int.reduceEq, eq_self, reduceCtorEq]
  ·have k2 := Homes_ok N O false false false u h (by omega) hv (by rw [hk]; exact q.1)
   have t2 := Tells_ok N O false false false u h (by omega) hv (by rw [hk]; exact q.1)
   rw [q.2.1] at k2
   rw [q.2.2] at t2
   refine callW_eq _ _ (k1) ?_
   simp -implicitDefEqProofs (maxSteps := 4000000) (disch := omega) only [push_cast, c7, Nat.reduceAdd, Nat.reduceSub, Nat.reduceMul, Nat.reduceBEq, Int.reduceToNat, Int.reduceNeg, Int.reduceLE, Int.reduceLT, Int.reduceBEq, Int.reduceBNe, Int.reduceEq, eq_self, reduceCtorEq]
   refine callW_eq _ _ (k2) ?_
   simp -implicitDefEqProofs (maxSteps := 4000000) (disch := omega) only [push_cast, c7, Nat.reduceAdd, Nat.reduceSub, Nat.reduceMul, Nat.reduceBEq, Int.reduceToNat, Int.reduceNeg, Int.reduceLE, Int.reduceLT, Int.reduceBEq, Int.reduceBNe, Int.reduceEq, eq_self, reduceCtorEq]
   have k3 := f27 u w false nz (by omega) (by omega)
   rw [show (decide (u.length < w.length) || (decide (u.length = w.length) && befB u w)) = false from hs.2.2 q.1 q.2.1] at k3
   refine callW_eq _ _ (k3) ?_
   simp -implicitDefEqProofs (maxSteps := 4000000) (disch := omega) only [push_cast, c7, Nat.reduceAdd, Nat.reduceSub, Nat.reduceMul, Nat.reduceBEq, Int.reduceToNat, Int.reduceNeg, Int.reduceLE, Int.reduceLT, Int.reduceBEq, Int.reduceBNe, Int.reduceEq, eq_self, reduceCtorEq]
   refine callW_eq _ _ (f13) ?_
   simp -implicitDefEqProofs (maxSteps := 4000000) (disch := omega) only [push_cast, c7, Nat.reduceAdd, Nat.reduceSub, Nat.reduceMul, Nat.reduceBEq, Int.reduceToNat, Int.reduceNeg, Int.reduceLE, Int.reduceLT, Int.reduceBEq, Int.reduceBNe, Int.reduceEq, eq_self, reduceCtorEq]
 ·have e1 := hc.1
  have e2 := hc.2.1
  have e3 := hc.2.2.2.1
  have hwa := hc.2.2.1
  subst e1
  subst e2
  subst e3
  have hs := hSok rfl
  have ht := hTok rfl
  have hwv := hc.2.2.2.2
  have k1 := Homes_ok N O false false nz w h (by omega) hv (by rw [hk]; exact hs.1)
  rw [hs.2.1] at k1
  have t1 := Tells_ok N O false false nz2 v h (by omega) hv (by rw [hk]; exact ht.1)
  rw [ht.2.1] at t1
  simp -implicitDefEqProofs (maxSteps := 4000000) (disch := omega) only [push_cast, c7, Nat.reduceAdd, Nat.reduceSub, Nat.reduceMul, Nat.reduceBEq, Int.reduceToNat, Int.reduceNeg, Int.reduceLE, Int.reduceLT, Int.reduceBEq, Int.reduceBNe, Int.reduceEq, eq_self, reduceCtorEq]
  refine ⟨fun h => by omega, fun _ => ?_⟩
  refine Or.elim hU (fun q => ?_) (fun hU => Or.elim hU (fun q => ?_) (fun hU => Or.elim hU (fun q => ?_) (fun q => ?_)))
  ·have k2 := Homes_b2 N O false false false u h (by omega) hv (by rw [hk]; exact q)
   have t2 := Tells_b2 N O false false false u h (by omega) hv (by rw [hk]; exact q)
   refine callW_eq _ _ (k1) ?_
   simp -implicitDefEqProofs (maxSteps := 4000000) (disch := omega) only [push_cast, c7, Nat.reduceAdd, Nat.reduceSub, Nat.reduceMul, Nat.reduceBEq, Int.reduceToNat, Int.reduceNeg, Int.reduceLE, Int.reduceLT, Int.reduceBEq, Int.reduceBNe, Int.reduceEq, eq_self, reduceCtorEq]
   refine callW_eq _ _ (k2) ?_
   simp -implicitDefEqProofs (maxSteps := 4000000) (disch := omega) only [push_cast, c7, Nat.reduceAdd, Nat.reduceSub, Nat.reduceMul, Nat.reduceBEq, Int.reduceToNat, Int.reduceNeg, Int.reduceLE, Int.reduceLT, Int.reduceBEq, Int.reduceBNe, Int.reduceEq, eq_self, reduceCtorEq]
   refine callW_eq _ _ (t1) ?_
   simp -implicitDefEqProofs (maxSteps := 4000000) (disch := omega) only [push_cast, c7, Nat.reduceAdd, Nat.reduceSub, Nat.reduceMul, Nat.reduceBEq, Int.reduceToNat, Int.reduceNeg, Int.reduceLE, Int.reduceLT, Int.reduceBEq, Int.reduceBNe, Int.reduceEq, eq_self, reduceCtorEq]
   refine callW_eq _ _ (t2) ?_
   simp -implicitDefEqProofs (maxSteps := 4000000) (disch := omega) only [push_cast, c7, Nat.reduceAdd, Nat.reduceSub, Nat.reduceMul, Nat.reduceBEq, Int.reduceToNat, Int.reduceNeg, Int.reduceLE, Int.reduceLT, Int.reduceBEq, Int.reduceBNe, Int.reduceEq, eq_self, reduceCtorEq]
   refine ⟨fun h => by omega, fun _ => ?_⟩
   refine callW_eq _ _ (f13) ?_
   simp -implicitDefEqProofs (maxSteps := 4000000) (disch := omega) only [push_cast, c7, Nat.reduceAdd, Nat.reduceSub, Nat.reduceMul, Nat.reduceBEq, Int.reduceToNat, Int.reduceNeg, Int.reduceLE, Int.reduceLT, Int.reduceBEq, Int.reduceBNe, Int.reduceEq, eq_self, reduceCtorEq]
  ·have k2 := Homes_ok N O false false false u h (by omega) hv (by rw [hk]; exact q.1)
   have t2 := Tells_ok N O false false false u h (by omega) hv (by rw [hk]; exact q.1)
   rw [q.2.1] at k2
   rw [q.2.2] at t2
   refine callW_eq _ _ (k1) ?_
   simp -implicitDefEqProofs (maxSteps := 4000000) (disch := omega) only [push_cast, c7, Nat.reduceAdd, Nat.reduceSub, Nat.reduceMul, Nat.reduceBEq, Int.reduceToNat, Int.reduceNeg, Int.reduceLE, Int.reduceLT, Int.reduceBEq, Int.reduceBNe, Int.reduceEq, eq_self, reduceCtorEq]
   refine callW_eq _ _ (k2) ?_
   simp -implicitDefEqProofs (maxSteps := 4000000) (disch := omega) only [push_cast, c7, Nat.reduceAdd, Nat.reduceSub, Nat.reduceMul, Nat.reduceBEq, Int.reduceToNat, Int.reduceNeg, Int.reduceLE, Int.reduceLT, Int.reduceBEq, Int.reduceBNe, Int.reduceEq, eq_self, reduceCtorEq]
   refine callW_eq _ _ (t1) ?_
   simp -implicitDefEqProofs (maxSteps := 4000000) (disch := omega) only [push_cast, c7, Nat.reduceAdd, Nat.reduceSub, Nat.reduceMul, Nat.reduceBEq, Int.reduceToNat, Int.reduceNeg, Int.reduceLE, Int.reduceLT, Int.reduceBEq, Int.reduceBNe, Int.reduceEq, eq_self, reduceCtorEq]
   refine callW_eq _ _ (t2) ?_
   simp -implicitDefEqProofs (maxSteps := 4000000) (disch := omega) only [push_cast, c7, Nat.reduceAdd, Nat.reduceSub, Nat.reduceMul, Nat.reduceBEq, Int.reduceToNat, Int.reduceNeg, Int.reduceLE, Int.reduceLT, Int.reduceBEq, Int.reduceBNe, Int.reduceEq, eq_self, reduceCtorEq]
   refine ⟨fun h => by omega, fun _ => ?_⟩
   refine callW_eq _ _ (f13) ?_
   simp -implicitDefEqProofs (maxSteps := 4000000) (disch := omega) only [push_cast, c7, Nat.reduceAdd, Nat.reduceSub, Nat.reduceMul, Nat.reduceBEq, Int.reduceToNat, Int.reduceNeg, Int.reduceLE, Int.reduceLT, Int.reduceBEq, Int.reduceBNe, Int.reduceEq, eq_self, reduceCtorEq]
  ·have k2 := Homes_ok N O false false false u h (by omega) hv (by rw [hk]; exact q.1)
   have t2 := Tells_ok N O false false false u h (by omega) hv (by rw [hk]; exact q.1)
   rw [q.2.1] at k2
   rw [q.2.2] at t2
   refine callW_eq _ _ (k1) ?_
   simp -implicitDefEqProofs (maxSteps := 4000000) (disch := omega) only [push_cast, c7, Nat.reduceAdd, Nat.reduceSub, Nat.reduceMul, Nat.reduceBEq, Int.reduceToNat, Int.reduceNeg, Int.reduceLE, Int.reduceLT, Int.reduceBEq, Int.reduceBNe, Int.reduceEq, eq_self, reduceCtorEq]
   refine callW_eq _ _ (k2) ?_
   simp -implicitDefEqProofs (maxSteps := 4000000) (disch := omega) only [push_cast, c7, Nat.reduceAdd, Nat.reduceSub, Nat.reduceMul, Nat.reduceBEq, Int.reduceToNat, Int.reduceNeg, Int.reduceLE, Int.reduceLT, Int.reduceBEq, Int.reduceBNe, Int.reduceEq, eq_self, reduceCtorEq]
   have k3 := f27 u w false nz (by omega) (by omega)
   rw [show (decide (u.length < w.length) || (decide (u.length = w.length) && befB u w)) = false from hs.2.2 q.1 q.2.1] at k3
   refine callW_eq _ _ (k3) ?_
   simp -implicitDefEqProofs (maxSteps := 4000000) (disch := omega) only [push_cast, c7, Nat.reduceAdd, Nat.reduceSub, Nat.reduceMul, Nat.reduceBEq, Int.reduceToNat, Int.reduceNeg, Int.reduceLE, Int.reduceLT, Int.reduceBEq, Int.reduceBNe, Int.reduceEq, eq_self, reduceCtorEq]
   refine callW_eq _ _ (t1) ?_
   simp -implicitDefEqProofs (maxSteps := 4000000) (disch := omega) only [push_cast, c7, Nat.reduceAdd, Nat.reduceSub, Nat.reduceMul, Nat.reduceBEq, Int.reduceToNat, Int.reduceNeg, Int.reduceLE, Int.reduceLT, Int.reduceBEq, Int.reduceBNe, Int.reduceEq, eq_self, reduceCtorEq]
   refine callW_eq _ _ (t2) ?_
   simp -implicitDefEqProofs (maxSteps := 4000000) (disch := omega) only [push_cast, c7, Nat.reduceAdd, Nat.reduceSub, Nat.reduceMul, Nat.reduceBEq, Int.reduceToNat, Int.reduceNeg, Int.reduceLE, Int.reduceLT, Int.reduceBEq, Int.reduceBNe, Int.reduceEq, eq_self, reduceCtorEq]
   refine ⟨fun h => by omega, fun _ => ?_⟩
   refine callW_eq _ _ (f13) ?_
   simp -implicitDefEqProofs (maxSteps := 4000000) (disch := omega) only [push_cast, c7, Nat.reduceAdd, Nat.reduceSub, Nat.reduceMul, Nat.reduceBEq, Int.reduceToNat, Int.reduceNeg, Int.reduceLE, Int.reduceLT, Int.reduceBEq, Int.reduceBNe, Int.reduceEq, eq_self, reduceCtorEq]
  ·have k2 := Homes_ok N O false false false u h (by omega) hv (by rw [hk]; exact q.1)
   have t2 := Tells_ok N O false false false u h (by omega) hv (by rw [hk]; exact q.1)
   rw [q.2.1] at k2
   rw [q.2.2] at t2
   refine callW_eq _ _ (k1) ?_
   simp -implicitDefEqProofs (maxSteps := 4000000) (disch := omega) only [push_cast, c7, Nat.reduceAdd, Nat.reduceSub, Nat.reduceMul, Nat.reduceBEq, Int.reduceToNat, Int.reduceNeg, Int.reduceLE, Int.reduceLT, Int.reduceBEq, Int.reduceBNe, Int.reduceEq, eq_self, reduceCtorEq]
   refine callW_eq _ _ (k2) ?_
   simp -implicitDefEqProofs (maxSteps := 4000000) (disch := omega) only [push_cast, c7, Nat.reduceAdd, Nat.reduceSub, Nat.reduceMul, Nat.reduceBEq, Int.reduceToNat, Int.reduceNeg, Int.reduceLE, Int.reduceLT, Int.reduceBEq, Int.reduceBNe, Int.reduceEq, eq_self, reduceCtorEq]
   have k3 := f27 u w false nz (by omega) (by omega)
   rw [show (decide (u.length < w.length) || (decide (u.length = w.length) && befB u w)) = false from hs.2.2 q.1 q.2.1] at k3
   refine callW_eq _ _ (k3) ?_
   simp -implicitDefEqProofs (maxSteps := 4000000) (disch := omega) only [push_cast, c7, Nat.reduceAdd, Nat.reduceSub, Nat.reduceMul, Nat.reduceBEq, Int.reduceToNat, Int.reduceNeg, Int.reduceLE, Int.reduceLT, Int.reduceBEq, Int.reduceBNe, Int.reduceEq, eq_self, reduceCtorEq]
   refine callW_eq _ _ (t1) ?_
   simp -implicitDefEqProofs (maxSteps := 4000000) (disch := omega) only [push_cast, c7, Nat.reduceAdd, Nat.reduceSub, Nat.reduceMul, Nat.reduceBEq, Int.reduceToNat, Int.reduceNeg, Int.reduceLE, Int.reduceLT, Int.reduceBEq, Int.reduceBNe, Int.reduceEq, eq_self, reduceCtorEq]
   refine callW_eq _ _ (t2) ?_
   simp -implicitDefEqProofs (maxSteps := 4000000) (disch := omega) only [push_cast, c7, Nat.reduceAdd, Nat.reduceSub, Nat.reduceMul, Nat.reduceBEq, Int.reduceToNat, Int.reduceNeg, Int.reduceLE, Int.reduceLT, Int.reduceBEq, Int.reduceBNe, Int.reduceEq, eq_self, reduceCtorEq]
   have t3 := f27 u v false nz2 (by omega) (by omega)
   rw [show (decide (u.length < v.length) || (decide (u.length = v.length) && befB u v)) = false from ht.2.2 q.1 q.2.2] at t3
   refine callW_eq _ _ (t3) ?_
   simp -implicitDefEqProofs (maxSteps := 4000000) (disch := omega) only [push_cast, c7, Nat.reduceAdd, Nat.reduceSub, Nat.reduceMul, Nat.reduceBEq, Int.reduceToNat, Int.reduceNeg, Int.reduceLE, Int.reduceLT, Int.reduceBEq, Int.reduceBNe, Int.reduceEq, eq_self, reduceCtorEq]
   refine ⟨fun h => by omega, fun _ => ?_⟩
   refine callW_eq _ _ (f13) ?_
   simp -implicitDefEqProofs (maxSteps := 4000000) (disch := omega) only [push_cast, c7, Nat.reduceAdd, Nat.reduceSub, Nat.reduceMul, Nat.reduceBEq, Int.reduceToNat, Int.reduceNeg, Int.reduceLE, Int.reduceLT, Int.reduceBEq, Int.reduceBNe, Int.reduceEq, eq_self, reduceCtorEq]
theorem lawHomeShorter (N O : List (List Int)) (w : List Int) (hl : N.length ≤ 4611686018427387904) (_ : ∀ r ∈ N, r.length ≤ 4611686018427387904) (ho : O.length ≤ 4611686018427387904) (_ : ∀ r ∈ O, r.length ≤ 4611686018427387904) (hw : w.length ≤ 17592186044416) :
  ACall Try.prog 7 [.agg [.pay (.rows (N)) (false), .pay (.rows (O)) (false)], .pay (.ints .i64 w) false] (fun r objs => r = .bool true ∧ objs = []) := f7 N O w hl ho hw
end Go.AM
end

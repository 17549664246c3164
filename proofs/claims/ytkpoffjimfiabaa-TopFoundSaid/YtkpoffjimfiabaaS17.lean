/-
  Contracts of knows and TopFound; conditions in each statement.
-/
import Derived.Test.YtkpoffjimfiabaaS8c
import Derived.Test.YtkpoffjimfiabaaS15a
import Derived.Test.YtkpoffjimfiabaaS7
import Derived.Test.YtkpoffjimfiabaaS6
import Derived.Test.YtkpoffjimfiabaaP6
import Derived.Test.YtkpoffjimfiabaaP4
set_option linter.unusedVariables false
set_option linter.unusedSimpArgs false
set_option linter.unusedSectionVars false
set_option linter.unnecessarySimpa false

section
namespace Go.AM
open Go Go.Proofs Go.Sort
theorem cntF_fullS {E : Nat → Nat → Bool} : ∀ {n : Nat}, cntF E n = n → ∀ s, s < n → isF E s = true ∧ cntF E s = s
 | 0, _, s, hs => by omega
 | n + 1, h, s, hs => by
  have h1 := cntF_le E n
  have h2 : isF E n = true ∧ cntF E n = n := by
   unfold cntF at h
   cases e : isF E n with
   | true => rw [e] at h; simp at h; exact ⟨rfl, h⟩
   | false => rw [e] at h; simp at h; omega
  by_cases e : s = n
  ·rw [e]; exact h2
  ·exact cntF_fullS h2.2 s (by omega)
theorem small_iff {N O : List (List Int)} {k : Nat} : (∀ s, s < N.length → (clsT N O k).getD s 0 = (s : Int)) ↔ cntT N O k = N.length := by
 constructor
 ·intro h
  refine cntF_all fun s hs => isF_iff.2 fun t ht e => ?_
  have h1 := h s hs
  have h2 := h t (by omega)
  have e2 : (clsT N O k).getD s 0 = (clsT N O k).getD t 0 := e
  omega
 ·intro h s hs
  have h1 : isF (clE N O k) s = true ∧ cntF (clE N O k) s = s := cntF_fullS h s hs
  have := cls_at (N := N) (O := O) (k := k) hs
  rw [show (clsT N O k).getD s 0 = atC (clsT N O k) s from rfl, this, show numF (clE N O k) s = cntF (clE N O k) s from numF_isF h1.1, h1.2]
def smallB (l : List Int) : Nat → Bool
 | 0 => true
 | s + 1 => smallB l s && (l.getD s 0 == (s : Int))
theorem smallB_iff {l : List Int} : ∀ {n : Nat}, smallB l n = true ↔ ∀ s, s < n → l.getD s 0 = (s : Int)
 | 0 => by simp [smallB]
 | n + 1 => by
  rw [smallB, Bool.and_eq_true, smallB_iff, beq_iff_eq]
  constructor
  ·rintro ⟨h1, h2⟩ s hs
   by_cases e : s = n
   ·rw [e]; exact h2
   ·exact h1 s (by omega)
  ·intro h
   exact ⟨fun s hs => h s (by omega), h n (by omega)⟩
theorem eHomR {w : List Int} {e : Int} (h : HomeR eN eO2 w e) : e = 0 ∧ 0 < w.length := by
 have hk : (eN.getD 0 []).length = 2 := rfl
 unfold HomeR at h
 rw [hk] at h
 rcases h with ⟨h, _⟩ | ⟨_, h, _⟩ | ⟨_, _, w', h1, _, ⟨D, hD, hB⟩, h2⟩
 ·rw [eV2.ok] at h; cases h
 ·exact absurd (hom_allD eHom (by decide)) h
 ·have h3 := hB (2 * (2 - 1) / 2) (fun p q => tab_pairs eV2 hD)
  have hl : w'.length ≤ 1 := h3
  rcases h2 with ⟨h2, _⟩ | ⟨_, rfl, rfl⟩
  ·omega
  ·refine ⟨rfl, ?_⟩
   cases w with
   | nil =>
    have := h1 0 1 (by decide) (by decide) rfl
    exact absurd this (by decide)
   | cons x w => simp
def c34 : VCfg := ⟨⟨[], [], [], [0, 1, 2, 3, 4]⟩, [], [], []⟩
set_option maxHeartbeats 4000000 in
set_option maxRecDepth 100000 in
theorem f34 : ACall Try.prog 34 [] (fun r objs => r = .bool true ∧ objs = []) := by
 have hb := eb eV2
 refine acall_intro (tyP_ok _) c34 2000 [.tmp 0] Try.func34 rfl (by rfl) rfl (by kernel_rfl) ?_
 unfold Try.f34
 simp -implicitDefEqProofs (maxSteps := 4000000) (disch := omega) only [push_cast, c34, Nat.reduceAdd, Nat.reduceSub, Nat.reduceMul, Nat.reduceBEq, Int.reduceToNat, Int.reduceNeg, Int.reduceLE, Int.reduceLT, Int.reduceBEq, Int.reduceBNe, Int.reduceEq, eq_self, reduceCtorEq]
 refine callW_eq _ _ (awk_Homes) ?_
 simp -implicitDefEqProofs (maxSteps := 4000000) (disch := omega) only [push_cast, c34, Nat.reduceAdd, Nat.reduceSub, Nat.reduceMul, Nat.reduceBEq, Int.reduceToNat, Int.reduceNeg, Int.reduceLE, Int.reduceLT, Int.reduceBEq, Int.reduceBNe, Int.reduceEq, eq_self, reduceCtorEq]
 refine callW_rel (f21 eN eO2 false false hb.1.1 hb.1.2 hb.2.1 hb.2.2) ?_
 rintro R O' ⟨w, e, nz, hR, rfl, rfl⟩
 simp -implicitDefEqProofs (maxSteps := 4000000) (disch := omega) only [push_cast, c34, Nat.reduceAdd, Nat.reduceSub, Nat.reduceMul, Nat.reduceBEq, Int.reduceToNat, Int.reduceNeg, Int.reduceLE, Int.reduceLT, Int.reduceBEq, Int.reduceBNe, Int.reduceEq, eq_self, reduceCtorEq]
 have h := eHomR hR
 have h1 := h.1
 subst h1
 have h2 := h.2
 exact ⟨fun _ => h2, fun h => absurd rfl h⟩
theorem HomeR.cases2 {N O : List (List Int)} {k : Nat} {w : List Int} {e : Int} (hv : vmB N O = true) (hV : VM N O k) (hk : (N.getD 0 []).length = k) (hn : N.length ≤ 12) (h : HomeR N O w e) :
  (e = 4 ∧ ¬ allD N O k) ∨ (e = 0 ∧ homW N O w ∧ (∀ c ∈ w, 0 ≤ c ∧ c < (k : Int)) ∧ w.length ≤ 40000) := by
 unfold HomeR at h
 rw [hk] at h
 have hn1 := hV.v.n1
 rcases h with ⟨h, _⟩ | ⟨_, h, h1, h2⟩ | ⟨_, _, w', w1, w2, ⟨D, hD, hB⟩, h3⟩
 ·rw [hv] at h; cases h
 ·exact .inl ⟨h1, h⟩
 ·have b1 := hB (N.length * (N.length - 1) / 2) (fun p q => tab_pairs hV hD)
  have b2 : (N.length - 1) * (N.length * (N.length - 1) / 2) ≤ 11 * (12 * 11) := Nat.mul_le_mul (by omega) (Nat.le_trans (Nat.div_le_self _ _) (Nat.mul_le_mul hn (by omega)))
  rcases h3 with ⟨h4, _⟩ | ⟨h4, rfl, rfl⟩
  ·omega
  ·exact .inr ⟨rfl, w1, w2, h4⟩
theorem min_allD2 {N O : List (List Int)} {k : Nat} (hV : VM N O k) (hmin : cntT N O k = N.length) : allD N O k := fun p q hp hq hpq => by
 have key : ∀ p q : Nat, p < q → q < N.length → ∃ w : List Int, (∀ c ∈ w, 0 ≤ c ∧ c < (k : Int)) ∧ outsG N O p w ≠ outsG N O q w := fun p q hpq hq => by
  obtain ⟨a, ha, b, hb, hab, w, w1, w2, w3⟩ := moore_set (P := [(p : Int), (q : Int)]) hV.cm hmin (by simp; omega) (by simp; omega) (by simp)
  have : (a = p ∧ b = q) ∨ (a = q ∧ b = p) := by
   simp at ha hb
   omega
  rcases this with ⟨rfl, rfl⟩ | ⟨rfl, rfl⟩
  ·exact ⟨w, w2, w3⟩
  ·exact ⟨w, w2, w3.symm⟩
 rcases Nat.lt_trichotomy p q with h | h | h
 ·obtain ⟨w, w2, w3⟩ := key p q h hq
  exact ⟨w, w2, .inl w3⟩
 ·exact absurd h hpq
 ·obtain ⟨w, w2, w3⟩ := key q p h hp
  exact ⟨w, w2, .inl w3.symm⟩
def c11 : VCfg := ⟨⟨[], [], [], [0, 1, 2, 3, 5, 6, 7, 8, 9, 10, 11, 12, 13, 14, 15, 16, 17, 18, 19, 28, 60, 63, 88, 127, 151, 153, 184]⟩, [(5, (.op 0 .loose (.op 1 .loose (.op 2 .loose (.op 4 .loose (.op 5 .loose (.op 6 .loose (.op 8 .loose (.op 9 .loose (.op 10 .loose (.op 3 .eff (.op 7 .eff (.op 11 .eff (.op 12 .loose (.op 13 .loose (.op 14 .loose .nil)))))))))))))))), (18, (.op 0 .loose (.op 1 .loose (.op 2 .loose (.op 3 .loose (.op 4 .loose (.op 5 .eff (.op 6 .loose (.op 7 .loose (.op 8 .loose (.op 9 .loose (.op 10 .loose (.op 11 .loose (.op 13 .loose (.op 14 .loose (.op 15 .loose (.op 12 .eff (.op 16 .eff (.op 17 .eff (.op 18 .loose (.op 19 .loose (.op 20 .loose (.op 21 .loose (.op 23 .loose (.op 24 .loose (.op 25 .loose (.op 22 .eff (.op 26 .eff (.op 27 .loose (.op 28 .loose (.op 29 .loose .nil))))))))))))))))))))))))))))))), (21, (.op 0 .loose (.op 1 .loose (.op 2 .loose (.op 4 .loose (.op 5 .loose (.op 6 .loose (.op 3 .eff (.op 7 .eff (.op 8 .eff (.op 9 .loose (.op 10 .loose (.op 11 .loose (.op 12 .loose (.op 14 .loose (.op 15 .loose (.op 16 .loose (.op 13 .eff (.op 17 .eff (.op 18 .loose (.op 19 .loose .nil))))))))))))))))))))), (27, (.op 0 .loose (.op 1 .loose (.op 2 .loose (.op 4 .loose (.op 5 .loose (.op 6 .loose (.op 3 .eff (.op 7 .eff (.op 8 .eff (.op 9 .loose (.op 10 .loose (.op 11 .loose (.op 12 .loose (.op 13 .loose (.op 15 .loose (.op 14 .eff (.op 16 .loose (.op 17 .loose (.op 18 .loose (.op 19 .eff (.op 20 .loose (.op 21 .loose .nil)))))))))))))))))))))))], [], []⟩
set_option maxHeartbeats 8000000 in
set_option maxRecDepth 100000 in
theorem f11 (a : List (List Int)) (outs : List Int) (x y : Int) (more : List Int) (hl : a.length ≤ 4611686018427387904) (hl2 : ∀ r ∈ a, r.length ≤ 4611686018427387904) (ho : outs.length ≤ 4611686018427387904) (hmo : more.length ≤ 4611686018427387904) :
  ACall Try.prog 11 [.agg [.pay (.rows a) false], .pay (.ints .i64 outs) false, .agg [.int .i64 x, .int .i64 y, .pay (.ints .i64 more) false]] (fun r objs => r = .bool true ∧ objs = []) := by
 refine acall_intro (tyP_ok _) c11 2000 [.tmp 6] Try.func11 rfl (by rfl) rfl (by kernel_rfl) ?_
 unfold Try.f11
 simp -implicitDefEqProofs (maxSteps := 4000000) (disch := omega) only [push_cast, c11, Nat.reduceAdd, Nat.reduceSub, Nat.reduceMul, Nat.reduceBEq, Int.reduceToNat, Int.reduceNeg, Int.reduceLE, Int.reduceLT, Int.reduceBEq, Int.reduceBNe, Int.reduceEq, eq_self, reduceCtorEq]
 refine callW_eq _ _ (f33 a false hl hl2) ?_
 simp -implicitDefEqProofs (maxSteps := 4000000) (disch := omega) only [push_cast, c11, Nat.reduceAdd, Nat.reduceSub, Nat.reduceMul, Nat.reduceBEq, Int.reduceToNat, Int.reduceNeg, Int.reduceLE, Int.reduceLT, Int.reduceBEq, Int.reduceBNe, Int.reduceEq, eq_self, reduceCtorEq]
 refine ⟨fun hv => ?_, fun hv => ⟨fun h12 => ?_, fun h12 => ?_⟩⟩
 ·refine callW_eq _ _ (f34) ?_
  simp -implicitDefEqProofs (maxSteps := 4000000) (disch := omega) only [push_cast, c11, Nat.reduceAdd, Nat.reduceSub, Nat.reduceMul, Nat.reduceBEq, Int.reduceToNat, Int.reduceNeg, Int.reduceLE, Int.reduceLT, Int.reduceBEq, Int.reduceBNe, Int.reduceEq, eq_self, reduceCtorEq]
 ·refine callW_eq _ _ (f34) ?_
  simp -implicitDefEqProofs (maxSteps := 4000000) (disch := omega) only [push_cast, c11, Nat.reduceAdd, Nat.reduceSub, Nat.reduceMul, Nat.reduceBEq, Int.reduceToNat, Int.reduceNeg, Int.reduceLE, Int.reduceLT, Int.reduceBEq, Int.reduceBNe, Int.reduceEq, eq_self, reduceCtorEq]
 have hV := vldB_iff.1 hv
 have hn1 := hV.n1
 have hk1 := hV.k1
 have hk2 := hV.k2
 generalize hk : (a.getD 0 []).length = k at *
 refine callW_rel (f35 a false false outs k hV ho) ?_
 rintro R O' ⟨nz, rfl, rfl⟩
 simp -implicitDefEqProofs (maxSteps := 4000000) (disch := omega) only [push_cast, c11, Nat.reduceAdd, Nat.reduceSub, Nat.reduceMul, Nat.reduceBEq, Int.reduceToNat, Int.reduceNeg, Int.reduceLE, Int.reduceLT, Int.reduceBEq, Int.reduceBNe, Int.reduceEq, eq_self, reduceCtorEq]
 have hM := made_vm (outs := outs) hV
 generalize hMo : madeO k outs a.length = M at *
 have hvm : vmB a M = true := hM.ok
 have hb := eb hM
 refine callW_eq _ _ (f36 x a.length (by omega) (by omega)) ?_
 simp -implicitDefEqProofs (maxSteps := 4000000) (disch := omega) only [push_cast, c11, Nat.reduceAdd, Nat.reduceSub, Nat.reduceMul, Nat.reduceBEq, Int.reduceToNat, Int.reduceNeg, Int.reduceLE, Int.reduceLT, Int.reduceBEq, Int.reduceBNe, Int.reduceEq, eq_self, reduceCtorEq]
 refine callW_eq _ _ (f36 y a.length (by omega) (by omega)) ?_
 simp -implicitDefEqProofs (maxSteps := 4000000) (disch := omega) only [push_cast, c11, Nat.reduceAdd, Nat.reduceSub, Nat.reduceMul, Nat.reduceBEq, Int.reduceToNat, Int.reduceNeg, Int.reduceLE, Int.reduceLT, Int.reduceBEq, Int.reduceBNe, Int.reduceEq, eq_self, reduceCtorEq]
 refine callW_rel (f37 a false false more (by omega) (by omega) (by omega) hmo) ?_
 rintro R O' ⟨nz2, rfl, rfl⟩
 simp -implicitDefEqProofs (maxSteps := 4000000) (disch := omega) only [push_cast, c11, Nat.reduceAdd, Nat.reduceSub, Nat.reduceMul, Nat.reduceBEq, Int.reduceToNat, Int.reduceNeg, Int.reduceLE, Int.reduceLT, Int.reduceBEq, Int.reduceBNe, Int.reduceEq, eq_self, reduceCtorEq]
 rw [hk]
 have hx : 0 ≤ x % (a.length : Int) ∧ x % (a.length : Int) < a.length := ⟨Int.emod_nonneg _ (by omega), Int.emod_lt_of_pos _ (by omega)⟩
 have hy : 0 ≤ y % (a.length : Int) ∧ y % (a.length : Int) < a.length := ⟨Int.emod_nonneg _ (by omega), Int.emod_lt_of_pos _ (by omega)⟩
 have hp := propW_mem (k := k) (by omega) (w := more)
 have hpl : (propW k more).length ≤ 2000 := by unfold propW; rw [List.length_map, List.length_take]; omega
 generalize x % (a.length : Int) = s at *
 generalize y % (a.length : Int) = t at *
 generalize propW k more = pw at *
 refine callW_rel (f38 a M false nz hl hl2 hb.2.1 hb.2.2) ?_
 rintro R O' ⟨c, e0, hcl, rfl, rfl⟩
 simp -implicitDefEqProofs (maxSteps := 4000000) (disch := omega) only [push_cast, c11, Nat.reduceAdd, Nat.reduceSub, Nat.reduceMul, Nat.reduceBEq, Int.reduceToNat, Int.reduceNeg, Int.reduceLE, Int.reduceLT, Int.reduceBEq, Int.reduceBNe, Int.reduceEq, eq_self, reduceCtorEq]
 have hcl2 : e0 = 0 ∧ c = clsT a M k := by
  rcases hcl with ⟨h, _⟩ | ⟨_, h1, h2⟩
  ·rw [hvm] at h; cases h
  ·exact ⟨h1, by rw [← hk]; exact h2⟩
 have q1 := hcl2.1
 have q2 := hcl2.2
 subst q1
 subst q2
 have hclen : (clsT a M k).length = a.length := clsT_len
 rw [hclen]
 refine ⟨fun h => absurd rfl h, fun _ => ⟨fun h => absurd rfl h, fun _ => ?_⟩⟩
 refine awp_upd (tyP_ok _) c11 2000 [3, 7, 8, 9, 10, 11, 12, 14, 15] (a.length) (fun _ => True) (fun i => [(14, .bool (smallB (clsT a M k) i)), (15, .int .i64 i)]) (fun i => []) (by kernel_rfl) rfl ?_ ?_
 ·trivial
 intro i hi _
 simp -implicitDefEqProofs (maxSteps := 4000000) (disch := omega) only [push_cast, c11, Nat.reduceAdd, Nat.reduceSub, Nat.reduceMul, Nat.reduceBEq, Int.reduceToNat, Int.reduceNeg, Int.reduceLE, Int.reduceLT, Int.reduceBEq, Int.reduceBNe, Int.reduceEq, eq_self, reduceCtorEq]
 refine ⟨fun hlt => ?_, fun hge => ?_⟩
 ·refine ⟨fun hs => ⟨by omega, hlt, ?_⟩, fun hs => ⟨hlt, ?_⟩⟩
  ·rw [smallB, hs, Bool.true_and]
  ·rw [smallB, hs, Bool.false_and]
 obtain rfl : i = a.length := by omega
 refine callW_rel (f21 a M false nz hl hl2 hb.2.1 hb.2.2) ?_
 rintro R O' ⟨w, e, nz3, hH, rfl, rfl⟩
 simp -implicitDefEqProofs (maxSteps := 4000000) (disch := omega) only [push_cast, c11, Nat.reduceAdd, Nat.reduceSub, Nat.reduceMul, Nat.reduceBEq, Int.reduceToNat, Int.reduceNeg, Int.reduceLE, Int.reduceLT, Int.reduceBEq, Int.reduceBNe, Int.reduceEq, eq_self, reduceCtorEq]
 refine callW_rel (f32 a M false nz s hl hl2 hb.2.1 hb.2.2) ?_
 rintro R O' ⟨v, at_, f, nz4, hS, rfl, rfl⟩
 simp -implicitDefEqProofs (maxSteps := 4000000) (disch := omega) only [push_cast, c11, Nat.reduceAdd, Nat.reduceSub, Nat.reduceMul, Nat.reduceBEq, Int.reduceToNat, Int.reduceNeg, Int.reduceLE, Int.reduceLT, Int.reduceBEq, Int.reduceBNe, Int.reduceEq, eq_self, reduceCtorEq]
 have hH2 := hH.cases2 hvm hM hk (by omega)
 have hsm : smallB (clsT a M k) a.length = decide (cntT a M k = a.length) := by
  rw [Bool.eq_iff_iff, smallB_iff, decide_eq_true_eq]
  exact small_iff
 have hS2 : (cntT a M k ≠ a.length ∧ f = 4) ∨ (cntT a M k = a.length ∧ f = 0 ∧ at_ = leadG a s v ∧ wordB k v = true ∧ 2 * v.length ≤ a.length * (a.length - 1) ∧ (∀ c ∈ v, 0 ≤ c ∧ c < (k : Int)) ∧ (outsG a M s v = outsG a M t v → leadG a t v = at_)) := by
  unfold SekR at hS
  rw [hk] at hS
  rcases hS with ⟨h, _⟩ | ⟨_, h, _⟩ | ⟨_, _, h1, h2, _⟩ | ⟨_, _, hm, h2, j, P, hc, hP⟩
  ·rw [hvm] at h; cases h
  ·exact absurd hx h
  ·exact .inl ⟨h1, h2⟩
  ·have hok := hc.ok hM hm hx
   have hbd := hok.bud
   have hba := budG_all (n := a.length)
   have hnn : a.length * (a.length - 1) ≤ 12 * 11 := Nat.mul_le_mul (by omega) (by omega)
   refine .inr ⟨hm, h2, hok.at_, wordB_iff.2 ⟨by omega, hok.word⟩, by omega, hok.word, fun ho => ?_⟩
   have h3 := hok.all t hy ho.symm
   have h4 := one_mem hok.mem hP
   rw [h4] at h3
   exact List.mem_singleton.1 h3
 have hC : (cntT a M k ≠ a.length ∧ f = 4 ∧ e = 4) ∨ (cntT a M k ≠ a.length ∧ f = 4 ∧ e = 0) ∨ (cntT a M k = a.length ∧ f = 0 ∧ e = 0) := by
  rcases hS2 with ⟨h1, h2⟩ | ⟨h1, h2, _⟩
  ·rcases hH2 with ⟨h3, _⟩ | ⟨h3, _⟩
   ·exact .inl ⟨h1, h2, h3⟩
   ·exact .inr (.inl ⟨h1, h2, h3⟩)
  ·rcases hH2 with ⟨_, h4⟩ | ⟨h3, _⟩
   ·exact absurd (min_allD2 hM h1) h4
   ·exact .inr (.inr ⟨h1, h2, h3⟩)
 have hHw : e = 0 → homW a M w ∧ (∀ c ∈ w, 0 ≤ c ∧ c < (k : Int)) ∧ w.length ≤ 40000 := fun h0 => by
  rcases hH2 with ⟨h3, _⟩ | ⟨_, h⟩
  ·omega
  ·exact h
 have hSk : f = 0 → at_ = leadG a s v ∧ wordB k v = true ∧ 2 * v.length ≤ a.length * (a.length - 1) ∧ (∀ c ∈ v, 0 ≤ c ∧ c < (k : Int)) ∧ (outsG a M s v = outsG a M t v → leadG a t v = at_) := fun h0 => by
  rcases hS2 with ⟨_, h3⟩ | ⟨_, _, h⟩
  ·omega
  ·exact h
 clear hH2 hS2 hH hS
 rw [hsm]
 refine Or.elim hC (fun hc => ?_) (fun hC => Or.elim hC (fun hc => ?_) (fun hc => ?_))
 ·have e1 := hc.2.1
  have e2 := hc.2.2
  have e3 : decide (cntT a M k = a.length) = false := decide_eq_false hc.1
  subst e1
  subst e2
  rw [e3]
  simp -implicitDefEqProofs (maxSteps := 4000000) (disch := omega) only [push_cast, c11, Nat.reduceAdd, Nat.reduceSub, Nat.reduceMul, Nat.reduceBEq, Int.reduceToNat, Int.reduceNeg, Int.reduceLE, Int.reduceLT, Int.reduceBEq, Int.reduceBNe, Int.reduceEq, eq_self, reduceCtorEq]
  refine callW_eq _ _ (f34) ?_
  simp -implicitDefEqProofs (maxSteps := 4000000) (disch := omega) only [push_cast, c11, Nat.reduceAdd, Nat.reduceSub, Nat.reduceMul, Nat.reduceBEq, Int.reduceToNat, Int.reduceNeg, Int.reduceLE, Int.reduceLT, Int.reduceBEq, Int.reduceBNe, Int.reduceEq, eq_self, reduceCtorEq]
 ·have e1 := hc.2.1
  have e2 := hc.2.2
  have e3 : decide (cntT a M k = a.length) = false := decide_eq_false hc.1
  subst e1
  subst e2
  have hw := hHw rfl
  rw [e3]
  simp -implicitDefEqProofs (maxSteps := 4000000) (disch := omega) only [push_cast, c11, Nat.reduceAdd, Nat.reduceSub, Nat.reduceMul, Nat.reduceBEq, Int.reduceToNat, Int.reduceNeg, Int.reduceLE, Int.reduceLT, Int.reduceBEq, Int.reduceBNe, Int.reduceEq, eq_self, reduceCtorEq]
  have kr := f39 a false nz3 w (by omega) (by omega)
  rw [hk, wordB_iff.2 ⟨hw.2.2, hw.2.1⟩] at kr
  refine callW_eq _ _ (kr) ?_
  simp -implicitDefEqProofs (maxSteps := 4000000) (disch := omega) only [push_cast, c11, Nat.reduceAdd, Nat.reduceSub, Nat.reduceMul, Nat.reduceBEq, Int.reduceToNat, Int.reduceNeg, Int.reduceLE, Int.reduceLT, Int.reduceBEq, Int.reduceBNe, Int.reduceEq, eq_self, reduceCtorEq]
  have hwp : ∀ c ∈ w ++ pw, 0 ≤ c ∧ c < (k : Int) := fun c hc => by
   rcases List.mem_append.1 hc with hc | hc
   ·exact hw.2.1 c hc
   ·exact hp c hc
  have hwl : (w ++ pw).length ≤ 42000 := by rw [List.length_append]; omega
  have hhw : outsG a M s (w ++ pw) = outsG a M t (w ++ pw) → leadG a s (w ++ pw) = leadG a t (w ++ pw) := fun e => homW_app hw.1 s t hx hy e
  have ktot : tot [w, pw] ≤ 1000000000 := by simp [tot]; omega
  refine callW_rel (f41 a M false nz nz3 s w k hM hx hw.2.1 (by omega)) ?_
  rintro R O' ⟨u1, rfl, rfl⟩
  simp -implicitDefEqProofs (maxSteps := 4000000) (disch := omega) only [push_cast, c11, Nat.reduceAdd, Nat.reduceSub, Nat.reduceMul, Nat.reduceBEq, Int.reduceToNat, Int.reduceNeg, Int.reduceLE, Int.reduceLT, Int.reduceBEq, Int.reduceBNe, Int.reduceEq, eq_self, reduceCtorEq]
  refine callW_rel (f41 a M false nz nz3 t w k hM hy hw.2.1 (by omega)) ?_
  rintro R O' ⟨u2, rfl, rfl⟩
  simp -implicitDefEqProofs (maxSteps := 4000000) (disch := omega) only [push_cast, c11, Nat.reduceAdd, Nat.reduceSub, Nat.reduceMul, Nat.reduceBEq, Int.reduceToNat, Int.reduceNeg, Int.reduceLE, Int.reduceLT, Int.reduceBEq, Int.reduceBNe, Int.reduceEq, eq_self, reduceCtorEq]
  refine callW_eq _ _ (f40 (outsG a M s w) (outsG a M t w) u1 u2 (by rw [outsG_len]; omega)) ?_
  simp -implicitDefEqProofs (maxSteps := 4000000) (disch := omega) only [push_cast, c11, Nat.reduceAdd, Nat.reduceSub, Nat.reduceMul, Nat.reduceBEq, Int.reduceToNat, Int.reduceNeg, Int.reduceLE, Int.reduceLT, Int.reduceBEq, Int.reduceBNe, Int.reduceEq, eq_self, reduceCtorEq]
  refine ⟨fun hq => ?_, fun hq => ?_⟩
  ·refine callW_eq _ _ (f42 a false nz3 s w k hV hx hw.2.1 (by omega)) ?_
   simp -implicitDefEqProofs (maxSteps := 4000000) (disch := omega) only [push_cast, c11, Nat.reduceAdd, Nat.reduceSub, Nat.reduceMul, Nat.reduceBEq, Int.reduceToNat, Int.reduceNeg, Int.reduceLE, Int.reduceLT, Int.reduceBEq, Int.reduceBNe, Int.reduceEq, eq_self, reduceCtorEq]
   refine callW_eq _ _ (f42 a false nz3 t w k hV hy hw.2.1 (by omega)) ?_
   simp -implicitDefEqProofs (maxSteps := 4000000) (disch := omega) only [push_cast, c11, Nat.reduceAdd, Nat.reduceSub, Nat.reduceMul, Nat.reduceBEq, Int.reduceToNat, Int.reduceNeg, Int.reduceLE, Int.reduceLT, Int.reduceBEq, Int.reduceBNe, Int.reduceEq, eq_self, reduceCtorEq]
   refine ⟨fun h => absurd (hw.1 s t hx hy hq) h, fun _ => ?_⟩
   refine callW_rel (f43 [w, pw] false (by simp) ktot) ?_
   rintro R O' ⟨u3, rfl, rfl⟩
   simp -implicitDefEqProofs (maxSteps := 4000000) (disch := omega) only [push_cast, c11, Nat.reduceAdd, Nat.reduceSub, Nat.reduceMul, Nat.reduceBEq, Int.reduceToNat, Int.reduceNeg, Int.reduceLE, Int.reduceLT, Int.reduceBEq, Int.reduceBNe, Int.reduceEq, eq_self, reduceCtorEq]
   rw [show [w, pw].flatten = w ++ pw by simp]
   refine callW_rel (f41 a M false nz u3 s (w ++ pw) k hM hx hwp (by omega)) ?_
   rintro R O' ⟨u4, rfl, rfl⟩
   simp -implicitDefEqProofs (maxSteps := 4000000) (disch := omega) only [push_cast, c11, Nat.reduceAdd, Nat.reduceSub, Nat.reduceMul, Nat.reduceBEq, Int.reduceToNat, Int.reduceNeg, Int.reduceLE, Int.reduceLT, Int.reduceBEq, Int.reduceBNe, Int.reduceEq, eq_self, reduceCtorEq]
   refine callW_rel (f41 a M false nz u3 t (w ++ pw) k hM hy hwp (by omega)) ?_
   rintro R O' ⟨u5, rfl, rfl⟩
   simp -implicitDefEqProofs (maxSteps := 4000000) (disch := omega) only [push_cast, c11, Nat.reduceAdd, Nat.reduceSub, Nat.reduceMul, Nat.reduceBEq, Int.reduceToNat, Int.reduceNeg, Int.reduceLE, Int.reduceLT, Int.reduceBEq, Int.reduceBNe, Int.reduceEq, eq_self, reduceCtorEq]
   refine callW_eq _ _ (f40 (outsG a M s (w ++ pw)) (outsG a M t (w ++ pw)) u4 u5 (by rw [outsG_len]; omega)) ?_
   simp -implicitDefEqProofs (maxSteps := 4000000) (disch := omega) only [push_cast, c11, Nat.reduceAdd, Nat.reduceSub, Nat.reduceMul, Nat.reduceBEq, Int.reduceToNat, Int.reduceNeg, Int.reduceLE, Int.reduceLT, Int.reduceBEq, Int.reduceBNe, Int.reduceEq, eq_self, reduceCtorEq]
   refine ⟨fun hq2 => ?_, fun hq2 => ?_⟩
   ·refine callW_eq _ _ (f42 a false u3 s (w ++ pw) k hV hx hwp (by omega)) ?_
    simp -implicitDefEqProofs (maxSteps := 4000000) (disch := omega) only [push_cast, c11, Nat.reduceAdd, Nat.reduceSub, Nat.reduceMul, Nat.reduceBEq, Int.reduceToNat, Int.reduceNeg, Int.reduceLE, Int.reduceLT, Int.reduceBEq, Int.reduceBNe, Int.reduceEq, eq_self, reduceCtorEq]
    refine callW_eq _ _ (f42 a false u3 t (w ++ pw) k hV hy hwp (by omega)) ?_
    simp -implicitDefEqProofs (maxSteps := 4000000) (disch := omega) only [push_cast, c11, Nat.reduceAdd, Nat.reduceSub, Nat.reduceMul, Nat.reduceBEq, Int.reduceToNat, Int.reduceNeg, Int.reduceLE, Int.reduceLT, Int.reduceBEq, Int.reduceBNe, Int.reduceEq, eq_self, reduceCtorEq]
    refine ⟨fun h => absurd (hhw hq2) h, fun _ => ?_⟩
    refine callW_eq _ _ (f34) ?_
    simp -implicitDefEqProofs (maxSteps := 4000000) (disch := omega) only [push_cast, c11, Nat.reduceAdd, Nat.reduceSub, Nat.reduceMul, Nat.reduceBEq, Int.reduceToNat, Int.reduceNeg, Int.reduceLE, Int.reduceLT, Int.reduceBEq, Int.reduceBNe, Int.reduceEq, eq_self, reduceCtorEq]
   ·refine callW_eq _ _ (f34) ?_
    simp -implicitDefEqProofs (maxSteps := 4000000) (disch := omega) only [push_cast, c11, Nat.reduceAdd, Nat.reduceSub, Nat.reduceMul, Nat.reduceBEq, Int.reduceToNat, Int.reduceNeg, Int.reduceLE, Int.reduceLT, Int.reduceBEq, Int.reduceBNe, Int.reduceEq, eq_self, reduceCtorEq]
  ·refine callW_rel (f43 [w, pw] false (by simp) ktot) ?_
   rintro R O' ⟨u3, rfl, rfl⟩
   simp -implicitDefEqProofs (maxSteps := 4000000) (disch := omega) only [push_cast, c11, Nat.reduceAdd, Nat.reduceSub, Nat.reduceMul, Nat.reduceBEq, Int.reduceToNat, Int.reduceNeg, Int.reduceLE, Int.reduceLT, Int.reduceBEq, Int.reduceBNe, Int.reduceEq, eq_self, reduceCtorEq]
   rw [show [w, pw].flatten = w ++ pw by simp]
   refine callW_rel (f41 a M false nz u3 s (w ++ pw) k hM hx hwp (by omega)) ?_
   rintro R O' ⟨u4, rfl, rfl⟩
   simp -implicitDefEqProofs (maxSteps := 4000000) (disch := omega) only [push_cast, c11, Nat.reduceAdd, Nat.reduceSub, Nat.reduceMul, Nat.reduceBEq, Int.reduceToNat, Int.reduceNeg, Int.reduceLE, Int.reduceLT, Int.reduceBEq, Int.reduceBNe, Int.reduceEq, eq_self, reduceCtorEq]
   refine callW_rel (f41 a M false nz u3 t (w ++ pw) k hM hy hwp (by omega)) ?_
   rintro R O' ⟨u5, rfl, rfl⟩
   simp -implicitDefEqProofs (maxSteps := 4000000) (disch := omega) only [push_cast, c11, Nat.reduceAdd, Nat.reduceSub, Nat.reduceMul, Nat.reduceBEq, Int.reduceToNat, Int.reduceNeg, Int.reduceLE, Int.reduceLT, Int.reduceBEq, Int.reduceBNe, Int.reduceEq, eq_self, reduceCtorEq]
   refine callW_eq _ _ (f40 (outsG a M s (w ++ pw)) (outsG a M t (w ++ pw)) u4 u5 (by rw [outsG_len]; omega)) ?_
   simp -implicitDefEqProofs (maxSteps := 4000000) (disch := omega) only [push_cast, c11, Nat.reduceAdd, Nat.reduceSub, Nat.reduceMul, Nat.reduceBEq, Int.reduceToNat, Int.reduceNeg, Int.reduceLE, Int.reduceLT, Int.reduceBEq, Int.reduceBNe, Int.reduceEq, eq_self, reduceCtorEq]
   refine ⟨fun hq2 => ?_, fun hq2 => ?_⟩
   ·refine callW_eq _ _ (f42 a false u3 s (w ++ pw) k hV hx hwp (by omega)) ?_
    simp -implicitDefEqProofs (maxSteps := 4000000) (disch := omega) only [push_cast, c11, Nat.reduceAdd, Nat.reduceSub, Nat.reduceMul, Nat.reduceBEq, Int.reduceToNat, Int.reduceNeg, Int.reduceLE, Int.reduceLT, Int.reduceBEq, Int.reduceBNe, Int.reduceEq, eq_self, reduceCtorEq]
    refine callW_eq _ _ (f42 a false u3 t (w ++ pw) k hV hy hwp (by omega)) ?_
    simp -implicitDefEqProofs (maxSteps := 4000000) (disch := omega) only [push_cast, c11, Nat.reduceAdd, Nat.reduceSub, Nat.reduceMul, Nat.reduceBEq, Int.reduceToNat, Int.reduceNeg, Int.reduceLE, Int.reduceLT, Int.reduceBEq, Int.reduceBNe, Int.reduceEq, eq_self, reduceCtorEq]
    refine ⟨fun h => absurd (hhw hq2) h, fun _ => ?_⟩
    refine callW_eq _ _ (f34) ?_
    simp -implicitDefEqProofs (maxSteps := 4000000) (disch := omega) only [push_cast, c11, Nat.reduceAdd, Nat.reduceSub, Nat.reduceMul, Nat.reduceBEq, Int.reduceToNat, Int.reduceNeg, Int.reduceLE, Int.reduceLT, Int.reduceBEq, Int.reduceBNe, Int.reduceEq, eq_self, reduceCtorEq]
   ·refine callW_eq _ _ (f34) ?_
    simp -implicitDefEqProofs (maxSteps := 4000000) (disch := omega) only [push_cast, c11, Nat.reduceAdd, Nat.reduceSub, Nat.reduceMul, Nat.reduceBEq, Int.reduceToNat, Int.reduceNeg, Int.reduceLE, Int.reduceLT, Int.reduceBEq, Int.reduceBNe, Int.reduceEq, eq_self, reduceCtorEq]
 ·have e1 := hc.2.1
  have e2 := hc.2.2
  have e3 : decide (cntT a M k = a.length) = true := decide_eq_true hc.1
  subst e1
  subst e2
  have hw := hHw rfl
  have hv2 := hSk rfl
  rw [e3]
  simp -implicitDefEqProofs (maxSteps := 4000000) (disch := omega) only [push_cast, c11, Nat.reduceAdd, Nat.reduceSub, Nat.reduceMul, Nat.reduceBEq, Int.reduceToNat, Int.reduceNeg, Int.reduceLE, Int.reduceLT, Int.reduceBEq, Int.reduceBNe, Int.reduceEq, eq_self, reduceCtorEq]
  have hnw : IntKind.i64.wrap ((a.length : Int) * ((a.length : Int) - 1)) = ((a.length * (a.length - 1) : Nat) : Int) := by
   have hnn : a.length * (a.length - 1) ≤ 12 * 11 := Nat.mul_le_mul (by omega) (by omega)
   rw [show ((a.length : Int) - 1) = ((a.length - 1 : Nat) : Int) by omega, ← Int.natCast_mul]
   exact wrap_nat (by omega) (by omega)
  have hvl : v.length ≤ 40000 := (wordB_iff.1 hv2.2.1).1
  have kv := f39 a false nz4 v (by omega) (by omega)
  rw [hk, hv2.2.1] at kv
  have kr := f39 a false nz3 w (by omega) (by omega)
  rw [hk, wordB_iff.2 ⟨hw.2.2, hw.2.1⟩] at kr
  refine callW_eq _ _ (kr) ?_
  simp -implicitDefEqProofs (maxSteps := 4000000) (disch := omega) only [push_cast, c11, Nat.reduceAdd, Nat.reduceSub, Nat.reduceMul, Nat.reduceBEq, Int.reduceToNat, Int.reduceNeg, Int.reduceLE, Int.reduceLT, Int.reduceBEq, Int.reduceBNe, Int.reduceEq, eq_self, reduceCtorEq]
  have hwp : ∀ c ∈ w ++ pw, 0 ≤ c ∧ c < (k : Int) := fun c hc => by
   rcases List.mem_append.1 hc with hc | hc
   ·exact hw.2.1 c hc
   ·exact hp c hc
  have hwl : (w ++ pw).length ≤ 42000 := by rw [List.length_append]; omega
  have hhw : outsG a M s (w ++ pw) = outsG a M t (w ++ pw) → leadG a s (w ++ pw) = leadG a t (w ++ pw) := fun e => homW_app hw.1 s t hx hy e
  have ktot : tot [w, pw] ≤ 1000000000 := by simp [tot]; omega
  refine callW_rel (f41 a M false nz nz3 s w k hM hx hw.2.1 (by omega)) ?_
  rintro R O' ⟨u1, rfl, rfl⟩
  simp -implicitDefEqProofs (maxSteps := 4000000) (disch := omega) only [push_cast, c11, Nat.reduceAdd, Nat.reduceSub, Nat.reduceMul, Nat.reduceBEq, Int.reduceToNat, Int.reduceNeg, Int.reduceLE, Int.reduceLT, Int.reduceBEq, Int.reduceBNe, Int.reduceEq, eq_self, reduceCtorEq]
  refine callW_rel (f41 a M false nz nz3 t w k hM hy hw.2.1 (by omega)) ?_
  rintro R O' ⟨u2, rfl, rfl⟩
  simp -implicitDefEqProofs (maxSteps := 4000000) (disch := omega) only [push_cast, c11, Nat.reduceAdd, Nat.reduceSub, Nat.reduceMul, Nat.reduceBEq, Int.reduceToNat, Int.reduceNeg, Int.reduceLE, Int.reduceLT, Int.reduceBEq, Int.reduceBNe, Int.reduceEq, eq_self, reduceCtorEq]
  refine callW_eq _ _ (f40 (outsG a M s w) (outsG a M t w) u1 u2 (by rw [outsG_len]; omega)) ?_
  simp -implicitDefEqProofs (maxSteps := 4000000) (disch := omega) only [push_cast, c11, Nat.reduceAdd, Nat.reduceSub, Nat.reduceMul, Nat.reduceBEq, Int.reduceToNat, Int.reduceNeg, Int.reduceLE, Int.reduceLT, Int.reduceBEq, Int.reduceBNe, Int.reduceEq, eq_self, reduceCtorEq]
  refine ⟨fun hq => ?_, fun hq => ?_⟩
  ·refine callW_eq _ _ (f42 a false nz3 s w k hV hx hw.2.1 (by omega)) ?_
   simp -implicitDefEqProofs (maxSteps := 4000000) (disch := omega) only [push_cast, c11, Nat.reduceAdd, Nat.reduceSub, Nat.reduceMul, Nat.reduceBEq, Int.reduceToNat, Int.reduceNeg, Int.reduceLE, Int.reduceLT, Int.reduceBEq, Int.reduceBNe, Int.reduceEq, eq_self, reduceCtorEq]
   refine callW_eq _ _ (f42 a false nz3 t w k hV hy hw.2.1 (by omega)) ?_
   simp -implicitDefEqProofs (maxSteps := 4000000) (disch := omega) only [push_cast, c11, Nat.reduceAdd, Nat.reduceSub, Nat.reduceMul, Nat.reduceBEq, Int.reduceToNat, Int.reduceNeg, Int.reduceLE, Int.reduceLT, Int.reduceBEq, Int.reduceBNe, Int.reduceEq, eq_self, reduceCtorEq]
   refine ⟨fun h => absurd (hw.1 s t hx hy hq) h, fun _ => ?_⟩
   refine callW_rel (f43 [w, pw] false (by simp) ktot) ?_
   rintro R O' ⟨u3, rfl, rfl⟩
   simp -implicitDefEqProofs (maxSteps := 4000000) (disch := omega) only [push_cast, c11, Nat.reduceAdd, Nat.reduceSub, Nat.reduceMul, Nat.reduceBEq, Int.reduceToNat, Int.reduceNeg, Int.reduceLE, Int.reduceLT, Int.reduceBEq, Int.reduceBNe, Int.reduceEq, eq_self, reduceCtorEq]
   rw [show [w, pw].flatten = w ++ pw by simp]
   refine callW_rel (f41 a M false nz u3 s (w ++ pw) k hM hx hwp (by omega)) ?_
   rintro R O' ⟨u4, rfl, rfl⟩
   simp -implicitDefEqProofs (maxSteps := 4000000) (disch := omega) only [push_cast, c11, Nat.reduceAdd, Nat.reduceSub, Nat.reduceMul, Nat.reduceBEq, Int.reduceToNat, Int.reduceNeg, Int.reduceLE, Int.reduceLT, Int.reduceBEq, Int.reduceBNe, Int.reduceEq, eq_self, reduceCtorEq]
   refine callW_rel (f41 a M false nz u3 t (w ++ pw) k hM hy hwp (by omega)) ?_
   rintro R O' ⟨u5, rfl, rfl⟩
   simp -implicitDefEqProofs (maxSteps := 4000000) (disch := omega) only [push_cast, c11, Nat.reduceAdd, Nat.reduceSub, Nat.reduceMul, Nat.reduceBEq, Int.reduceToNat, Int.reduceNeg, Int.reduceLE, Int.reduceLT, Int.reduceBEq, Int.reduceBNe, Int.reduceEq, eq_self, reduceCtorEq]
   refine callW_eq _ _ (f40 (outsG a M s (w ++ pw)) (outsG a M t (w ++ pw)) u4 u5 (by rw [outsG_len]; omega)) ?_
   simp -implicitDefEqProofs (maxSteps := 4000000) (disch := omega) only [push_cast, c11, Nat.reduceAdd, Nat.reduceSub, Nat.reduceMul, Nat.reduceBEq, Int.reduceToNat, Int.reduceNeg, Int.reduceLE, Int.reduceLT, Int.reduceBEq, Int.reduceBNe, Int.reduceEq, eq_self, reduceCtorEq]
   refine ⟨fun hq2 => ?_, fun hq2 => ?_⟩
   ·refine callW_eq _ _ (f42 a false u3 s (w ++ pw) k hV hx hwp (by omega)) ?_
    simp -implicitDefEqProofs (maxSteps := 4000000) (disch := omega) only [push_cast, c11, Nat.reduceAdd, Nat.reduceSub, Nat.reduceMul, Nat.reduceBEq, Int.reduceToNat, Int.reduceNeg, Int.reduceLE, Int.reduceLT, Int.reduceBEq, Int.reduceBNe, Int.reduceEq, eq_self, reduceCtorEq]
    refine callW_eq _ _ (f42 a false u3 t (w ++ pw) k hV hy hwp (by omega)) ?_
    simp -implicitDefEqProofs (maxSteps := 4000000) (disch := omega) only [push_cast, c11, Nat.reduceAdd, Nat.reduceSub, Nat.reduceMul, Nat.reduceBEq, Int.reduceToNat, Int.reduceNeg, Int.reduceLE, Int.reduceLT, Int.reduceBEq, Int.reduceBNe, Int.reduceEq, eq_self, reduceCtorEq]
    refine ⟨fun h => absurd (hhw hq2) h, fun _ => ?_⟩
    refine callW_eq _ _ (kv) ?_
    simp -implicitDefEqProofs (maxSteps := 4000000) (disch := omega) only [push_cast, c11, Nat.reduceAdd, Nat.reduceSub, Nat.reduceMul, Nat.reduceBEq, Int.reduceToNat, Int.reduceNeg, Int.reduceLE, Int.reduceLT, Int.reduceBEq, Int.reduceBNe, Int.reduceEq, eq_self, reduceCtorEq]
    rw [hnw]
    refine ⟨fun h => by omega, fun _ => ?_⟩
    refine callW_eq _ _ (f42 a false nz4 s v k hV hx hv2.2.2.2.1 (by omega)) ?_
    simp -implicitDefEqProofs (maxSteps := 4000000) (disch := omega) only [push_cast, c11, Nat.reduceAdd, Nat.reduceSub, Nat.reduceMul, Nat.reduceBEq, Int.reduceToNat, Int.reduceNeg, Int.reduceLE, Int.reduceLT, Int.reduceBEq, Int.reduceBNe, Int.reduceEq, eq_self, reduceCtorEq]
    refine ⟨fun h => absurd hv2.1.symm h, fun _ => ?_⟩
    refine callW_rel (f41 a M false nz nz4 s v k hM hx hv2.2.2.2.1 (by omega)) ?_
    rintro R O' ⟨u6, rfl, rfl⟩
    simp -implicitDefEqProofs (maxSteps := 4000000) (disch := omega) only [push_cast, c11, Nat.reduceAdd, Nat.reduceSub, Nat.reduceMul, Nat.reduceBEq, Int.reduceToNat, Int.reduceNeg, Int.reduceLE, Int.reduceLT, Int.reduceBEq, Int.reduceBNe, Int.reduceEq, eq_self, reduceCtorEq]
    refine callW_rel (f41 a M false nz nz4 t v k hM hy hv2.2.2.2.1 (by omega)) ?_
    rintro R O' ⟨u7, rfl, rfl⟩
    simp -implicitDefEqProofs (maxSteps := 4000000) (disch := omega) only [push_cast, c11, Nat.reduceAdd, Nat.reduceSub, Nat.reduceMul, Nat.reduceBEq, Int.reduceToNat, Int.reduceNeg, Int.reduceLE, Int.reduceLT, Int.reduceBEq, Int.reduceBNe, Int.reduceEq, eq_self, reduceCtorEq]
    refine callW_eq _ _ (f40 (outsG a M s v) (outsG a M t v) u6 u7 (by rw [outsG_len]; omega)) ?_
    simp -implicitDefEqProofs (maxSteps := 4000000) (disch := omega) only [push_cast, c11, Nat.reduceAdd, Nat.reduceSub, Nat.reduceMul, Nat.reduceBEq, Int.reduceToNat, Int.reduceNeg, Int.reduceLE, Int.reduceLT, Int.reduceBEq, Int.reduceBNe, Int.reduceEq, eq_self, reduceCtorEq]
    refine ⟨fun hq3 => ?_, fun hq3 => ?_⟩
    ·refine callW_eq _ _ (f34) ?_
     simp -implicitDefEqProofs (maxSteps := 4000000) (disch := omega) only [push_cast, c11, Nat.reduceAdd, Nat.reduceSub, Nat.reduceMul, Nat.reduceBEq, Int.reduceToNat, Int.reduceNeg, Int.reduceLE, Int.reduceLT, Int.reduceBEq, Int.reduceBNe, Int.reduceEq, eq_self, reduceCtorEq]
    ·refine callW_eq _ _ (f42 a false nz4 t v k hV hy hv2.2.2.2.1 (by omega)) ?_
     simp -implicitDefEqProofs (maxSteps := 4000000) (disch := omega) only [push_cast, c11, Nat.reduceAdd, Nat.reduceSub, Nat.reduceMul, Nat.reduceBEq, Int.reduceToNat, Int.reduceNeg, Int.reduceLE, Int.reduceLT, Int.reduceBEq, Int.reduceBNe, Int.reduceEq, eq_self, reduceCtorEq]
     refine ⟨fun _ => ?_, fun h => absurd (hv2.2.2.2.2 hq3) h⟩
     refine callW_eq _ _ (f34) ?_
     simp -implicitDefEqProofs (maxSteps := 4000000) (disch := omega) only [push_cast, c11, Nat.reduceAdd, Nat.reduceSub, Nat.reduceMul, Nat.reduceBEq, Int.reduceToNat, Int.reduceNeg, Int.reduceLE, Int.reduceLT, Int.reduceBEq, Int.reduceBNe, Int.reduceEq, eq_self, reduceCtorEq]
   ·refine callW_eq _ _ (kv) ?_
    simp -implicitDefEqProofs (maxSteps := 4000000) (disch := omega) only [push_cast, c11, Nat.reduceAdd, Nat.reduceSub, Nat.reduceMul, Nat.reduceBEq, Int.reduceToNat, Int.reduceNeg, Int.reduceLE, Int.reduceLT, Int.reduceBEq, Int.reduceBNe, Int.reduceEq, eq_self, reduceCtorEq]
    rw [hnw]
    refine ⟨fun h => by omega, fun _ => ?_⟩
    refine callW_eq _ _ (f42 a false nz4 s v k hV hx hv2.2.2.2.1 (by omega)) ?_
    simp -implicitDefEqProofs (maxSteps := 4000000) (disch := omega) only [push_cast, c11, Nat.reduceAdd, Nat.reduceSub, Nat.reduceMul, Nat.reduceBEq, Int.reduceToNat, Int.reduceNeg, Int.reduceLE, Int.reduceLT, Int.reduceBEq, Int.reduceBNe, Int.reduceEq, eq_self, reduceCtorEq]
    refine ⟨fun h => absurd hv2.1.symm h, fun _ => ?_⟩
    refine callW_rel (f41 a M false nz nz4 s v k hM hx hv2.2.2.2.1 (by omega)) ?_
    rintro R O' ⟨u6, rfl, rfl⟩
    simp -implicitDefEqProofs (maxSteps := 4000000) (disch := omega) only [push_cast, c11, Nat.reduceAdd, Nat.reduceSub, Nat.reduceMul, Nat.reduceBEq, Int.reduceToNat, Int.reduceNeg, Int.reduceLE, Int.reduceLT, Int.reduceBEq, Int.reduceBNe, Int.reduceEq, eq_self, reduceCtorEq]
    refine callW_rel (f41 a M false nz nz4 t v k hM hy hv2.2.2.2.1 (by omega)) ?_
    rintro R O' ⟨u7, rfl, rfl⟩
    simp -implicitDefEqProofs (maxSteps := 4000000) (disch := omega) only [push_cast, c11, Nat.reduceAdd, Nat.reduceSub, Nat.reduceMul, Nat.reduceBEq, Int.reduceToNat, Int.reduceNeg, Int.reduceLE, Int.reduceLT, Int.reduceBEq, Int.reduceBNe, Int.reduceEq, eq_self, reduceCtorEq]
    refine callW_eq _ _ (f40 (outsG a M s v) (outsG a M t v) u6 u7 (by rw [outsG_len]; omega)) ?_
    simp -implicitDefEqProofs (maxSteps := 4000000) (disch := omega) only [push_cast, c11, Nat.reduceAdd, Nat.reduceSub, Nat.reduceMul, Nat.reduceBEq, Int.reduceToNat, Int.reduceNeg, Int.reduceLE, Int.reduceLT, Int.reduceBEq, Int.reduceBNe, Int.reduceEq, eq_self, reduceCtorEq]
    refine ⟨fun hq3 => ?_, fun hq3 => ?_⟩
    ·refine callW_eq _ _ (f34) ?_
     simp -implicitDefEqProofs (maxSteps := 4000000) (disch := omega) only [push_cast, c11, Nat.reduceAdd, Nat.reduceSub, Nat.reduceMul, Nat.reduceBEq, Int.reduceToNat, Int.reduceNeg, Int.reduceLE, Int.reduceLT, Int.reduceBEq, Int.reduceBNe, Int.reduceEq, eq_self, reduceCtorEq]
    ·refine callW_eq _ _ (f42 a false nz4 t v k hV hy hv2.2.2.2.1 (by omega)) ?_
     simp -implicitDefEqProofs (maxSteps := 4000000) (disch := omega) only [push_cast, c11, Nat.reduceAdd, Nat.reduceSub, Nat.reduceMul, Nat.reduceBEq, Int.reduceToNat, Int.reduceNeg, Int.reduceLE, Int.reduceLT, Int.reduceBEq, Int.reduceBNe, Int.reduceEq, eq_self, reduceCtorEq]
     refine ⟨fun _ => ?_, fun h => absurd (hv2.2.2.2.2 hq3) h⟩
     refine callW_eq _ _ (f34) ?_
     simp -implicitDefEqProofs (maxSteps := 4000000) (disch := omega) only [push_cast, c11, Nat.reduceAdd, Nat.reduceSub, Nat.reduceMul, Nat.reduceBEq, Int.reduceToNat, Int.reduceNeg, Int.reduceLE, Int.reduceLT, Int.reduceBEq, Int.reduceBNe, Int.reduceEq, eq_self, reduceCtorEq]
  ·refine callW_rel (f43 [w, pw] false (by simp) ktot) ?_
   rintro R O' ⟨u3, rfl, rfl⟩
   simp -implicitDefEqProofs (maxSteps := 4000000) (disch := omega) only [push_cast, c11, Nat.reduceAdd, Nat.reduceSub, Nat.reduceMul, Nat.reduceBEq, Int.reduceToNat, Int.reduceNeg, Int.reduceLE, Int.reduceLT, Int.reduceBEq, Int.reduceBNe, Int.reduceEq, eq_self, reduceCtorEq]
   rw [show [w, pw].flatten = w ++ pw by simp]
   refine callW_rel (f41 a M false nz u3 s (w ++ pw) k hM hx hwp (by omega)) ?_
   rintro R O' ⟨u4, rfl, rfl⟩
   simp -implicitDefEqProofs (maxSteps := 4000000) (disch := omega) only [push_cast, c11, Nat.reduceAdd, Nat.reduceSub, Nat.reduceMul, Nat.reduceBEq, Int.reduceToNat, Int.reduceNeg, Int.reduceLE, Int.reduceLT, Int.reduceBEq, Int.reduceBNe, Int.reduceEq, eq_self, reduceCtorEq]
   refine callW_rel (f41 a M false nz u3 t (w ++ pw) k hM hy hwp (by omega)) ?_
   rintro R O' ⟨u5, rfl, rfl⟩
   simp -implicitDefEqProofs (maxSteps := 4000000) (disch := omega) only [push_cast, c11, Nat.reduceAdd, Nat.reduceSub, Nat.reduceMul, Nat.reduceBEq, Int.reduceToNat, Int.reduceNeg, Int.reduceLE, Int.reduceLT, Int.reduceBEq, Int.reduceBNe, Int.reduceEq, eq_self, reduceCtorEq]
   refine callW_eq _ _ (f40 (outsG a M s (w ++ pw)) (outsG a M t (w ++ pw)) u4 u5 (by rw [outsG_len]; omega)) ?_
   simp -implicitDefEqProofs (maxSteps := 4000000) (disch := omega) only [push_cast, c11, Nat.reduceAdd, Nat.reduceSub, Nat.reduceMul, Nat.reduceBEq, Int.reduceToNat, Int.reduceNeg, Int.reduceLE, Int.reduceLT, Int.reduceBEq, Int.reduceBNe, Int.reduceEq, eq_self, reduceCtorEq]
   refine ⟨fun hq2 => ?_, fun hq2 => ?_⟩
   ·refine callW_eq _ _ (f42 a false u3 s (w ++ pw) k hV hx hwp (by omega)) ?_
    simp -implicitDefEqProofs (maxSteps := 4000000) (disch := omega) only [push_cast, c11, Nat.reduceAdd, Nat.reduceSub, Nat.reduceMul, Nat.reduceBEq, Int.reduceToNat, Int.reduceNeg, Int.reduceLE, Int.reduceLT, Int.reduceBEq, Int.reduceBNe, Int.reduceEq, eq_self, reduceCtorEq]
    refine callW_eq _ _ (f42 a false u3 t (w ++ pw) k hV hy hwp (by omega)) ?_
    simp -implicitDefEqProofs (maxSteps := 4000000) (disch := omega) only [push_cast, c11, Nat.reduceAdd, Nat.reduceSub, Nat.reduceMul, Nat.reduceBEq, Int.reduceToNat, Int.reduceNeg, Int.reduceLE, Int.reduceLT, Int.reduceBEq, Int.reduceBNe, Int.reduceEq, eq_self, reduceCtorEq]
    refine ⟨fun h => absurd (hhw hq2) h, fun _ => ?_⟩
    refine callW_eq _ _ (kv) ?_
    simp -implicitDefEqProofs (maxSteps := 4000000) (disch := omega) only [push_cast, c11, Nat.reduceAdd, Nat.reduceSub, Nat.reduceMul, Nat.reduceBEq, Int.reduceToNat, Int.reduceNeg, Int.reduceLE, Int.reduceLT, Int.reduceBEq, Int.reduceBNe, Int.reduceEq, eq_self, reduceCtorEq]
    rw [hnw]
    refine ⟨fun h => by omega, fun _ => ?_⟩
    refine callW_eq _ _ (f42 a false nz4 s v k hV hx hv2.2.2.2.1 (by omega)) ?_
    simp -implicitDefEqProofs (maxSteps := 4000000) (disch := omega) only [push_cast, c11, Nat.reduceAdd, Nat.reduceSub, Nat.reduceMul, Nat.reduceBEq, Int.reduceToNat, Int.reduceNeg, Int.reduceLE, Int.reduceLT, Int.reduceBEq, Int.reduceBNe, Int.reduceEq, eq_self, reduceCtorEq]
    refine ⟨fun h => absurd hv2.1.symm h, fun _ => ?_⟩
    refine callW_rel (f41 a M false nz nz4 s v k hM hx hv2.2.2.2.1 (by omega)) ?_
    rintro R O' ⟨u6, rfl, rfl⟩
    simp -implicitDefEqProofs (maxSteps := 4000000) (disch := omega) only [push_cast, c11, Nat.reduceAdd, Nat.reduceSub, Nat.reduceMul, Nat.reduceBEq, Int.reduceToNat, Int.reduceNeg, Int.reduceLE, Int.reduceLT, Int.reduceBEq, Int.reduceBNe, Int.reduceEq, eq_self, reduceCtorEq]
    refine callW_rel (f41 a M false nz nz4 t v k hM hy hv2.2.2.2.1 (by omega)) ?_
    rintro R O' ⟨u7, rfl, rfl⟩
    simp -implicitDefEqProofs (maxSteps := 4000000) (disch := omega) only [push_cast, c11, Nat.reduceAdd, Nat.reduceSub, Nat.reduceMul, Nat.reduceBEq, Int.reduceToNat, Int.reduceNeg, Int.reduceLE, Int.reduceLT, Int.reduceBEq, Int.reduceBNe, Int.reduceEq, eq_self, reduceCtorEq]
    refine callW_eq _ _ (f40 (outsG a M s v) (outsG a M t v) u6 u7 (by rw [outsG_len]; omega)) ?_
    simp -implicitDefEqProofs (maxSteps := 4000000) (disch := omega) only [push_cast, c11, Nat.reduceAdd, Nat.reduceSub, Nat.reduceMul, Nat.reduceBEq, Int.reduceToNat, Int.reduceNeg, Int.reduceLE, Int.reduceLT, Int.reduceBEq, Int.reduceBNe, Int.reduceEq, eq_self, reduceCtorEq]
    refine ⟨fun hq3 => ?_, fun hq3 => ?_⟩
    ·refine callW_eq _ _ (f34) ?_
     simp -implicitDefEqProofs (maxSteps := 4000000) (disch := omega) only [push_cast, c11, Nat.reduceAdd, Nat.reduceSub, Nat.reduceMul, Nat.reduceBEq, Int.reduceToNat, Int.reduceNeg, Int.reduceLE, Int.reduceLT, Int.reduceBEq, Int.reduceBNe, Int.reduceEq, eq_self, reduceCtorEq]
    ·refine callW_eq _ _ (f42 a false nz4 t v k hV hy hv2.2.2.2.1 (by omega)) ?_
     simp -implicitDefEqProofs (maxSteps := 4000000) (disch := omega) only [push_cast, c11, Nat.reduceAdd, Nat.reduceSub, Nat.reduceMul, Nat.reduceBEq, Int.reduceToNat, Int.reduceNeg, Int.reduceLE, Int.reduceLT, Int.reduceBEq, Int.reduceBNe, Int.reduceEq, eq_self, reduceCtorEq]
     refine ⟨fun _ => ?_, fun h => absurd (hv2.2.2.2.2 hq3) h⟩
     refine callW_eq _ _ (f34) ?_
     simp -implicitDefEqProofs (maxSteps := 4000000) (disch := omega) only [push_cast, c11, Nat.reduceAdd, Nat.reduceSub, Nat.reduceMul, Nat.reduceBEq, Int.reduceToNat, Int.reduceNeg, Int.reduceLE, Int.reduceLT, Int.reduceBEq, Int.reduceBNe, Int.reduceEq, eq_self, reduceCtorEq]
   ·refine callW_eq _ _ (kv) ?_
    simp -implicitDefEqProofs (maxSteps := 4000000) (disch := omega) only [push_cast, c11, Nat.reduceAdd, Nat.reduceSub, Nat.reduceMul, Nat.reduceBEq, Int.reduceToNat, Int.reduceNeg, Int.reduceLE, Int.reduceLT, Int.reduceBEq, Int.reduceBNe, Int.reduceEq, eq_self, reduceCtorEq]
    rw [hnw]
    refine ⟨fun h => by omega, fun _ => ?_⟩
    refine callW_eq _ _ (f42 a false nz4 s v k hV hx hv2.2.2.2.1 (by omega)) ?_
    simp -implicitDefEqProofs (maxSteps := 4000000) (disch := omega) only [push_cast, c11, Nat.reduceAdd, Nat.reduceSub, Nat.reduceMul, Nat.reduceBEq, Int.reduceToNat, Int.reduceNeg, Int.reduceLE, Int.reduceLT, Int.reduceBEq, Int.reduceBNe, Int.reduceEq, eq_self, reduceCtorEq]
    refine ⟨fun h => absurd hv2.1.symm h, fun _ => ?_⟩
    refine callW_rel (f41 a M false nz nz4 s v k hM hx hv2.2.2.2.1 (by omega)) ?_
    rintro R O' ⟨u6, rfl, rfl⟩
    simp -implicitDefEqProofs (maxSteps := 4000000) (disch := omega) only [push_cast, c11, Nat.reduceAdd, Nat.reduceSub, Nat.reduceMul, Nat.reduceBEq, Int.reduceToNat, Int.reduceNeg, Int.reduceLE, Int.reduceLT, Int.reduceBEq, Int.reduceBNe, Int.reduceEq, eq_self, reduceCtorEq]
    refine callW_rel (f41 a M false nz nz4 t v k hM hy hv2.2.2.2.1 (by omega)) ?_
    rintro R O' ⟨u7, rfl, rfl⟩
    simp -implicitDefEqProofs (maxSteps := 4000000) (disch := omega) only [push_cast, c11, Nat.reduceAdd, Nat.reduceSub, Nat.reduceMul, Nat.reduceBEq, Int.reduceToNat, Int.reduceNeg, Int.reduceLE, Int.reduceLT, Int.reduceBEq, Int.reduceBNe, Int.reduceEq, eq_self, reduceCtorEq]
    refine callW_eq _ _ (f40 (outsG a M s v) (outsG a M t v) u6 u7 (by rw [outsG_len]; omega)) ?_
    simp -implicitDefEqProofs (maxSteps := 4000000) (disch := omega) only [push_cast, c11, Nat.reduceAdd, Nat.reduceSub, Nat.reduceMul, Nat.reduceBEq, Int.reduceToNat, Int.reduceNeg, Int.reduceLE, Int.reduceLT, Int.reduceBEq, Int.reduceBNe, Int.reduceEq, eq_self, reduceCtorEq]
    refine ⟨fun hq3 => ?_, fun hq3 => ?_⟩
    ·refine callW_eq _ _ (f34) ?_
     simp -implicitDefEqProofs (maxSteps := 4000000) (disch := omega) only [push_cast, c11, Nat.reduceAdd, Nat.reduceSub, Nat.reduceMul, Nat.reduceBEq, Int.reduceToNat, Int.reduceNeg, Int.reduceLE, Int.reduceLT, Int.reduceBEq, Int.reduceBNe, Int.reduceEq, eq_self, reduceCtorEq]
    ·refine callW_eq _ _ (f42 a false nz4 t v k hV hy hv2.2.2.2.1 (by omega)) ?_
     simp -implicitDefEqProofs (maxSteps := 4000000) (disch := omega) only [push_cast, c11, Nat.reduceAdd, Nat.reduceSub, Nat.reduceMul, Nat.reduceBEq, Int.reduceToNat, Int.reduceNeg, Int.reduceLE, Int.reduceLT, Int.reduceBEq, Int.reduceBNe, Int.reduceEq, eq_self, reduceCtorEq]
     refine ⟨fun _ => ?_, fun h => absurd (hv2.2.2.2.2 hq3) h⟩
     refine callW_eq _ _ (f34) ?_
     simp -implicitDefEqProofs (maxSteps := 4000000) (disch := omega) only [push_cast, c11, Nat.reduceAdd, Nat.reduceSub, Nat.reduceMul, Nat.reduceBEq, Int.reduceToNat, Int.reduceNeg, Int.reduceLE, Int.reduceLT, Int.reduceBEq, Int.reduceBNe, Int.reduceEq, eq_self, reduceCtorEq]
theorem lawTopFound (a : List (List Int)) (outs : List Int) (x y : Int) (more : List Int) (hl : a.length ≤ 4611686018427387904) (hl2 : ∀ r ∈ a, r.length ≤ 4611686018427387904) (ho : outs.length ≤ 4611686018427387904) (hmo : more.length ≤ 4611686018427387904) :
  ACall Try.prog 11 [.agg [.pay (.rows a) false], .pay (.ints .i64 outs) false, .agg [.int .i64 x, .int .i64 y, .pay (.ints .i64 more) false]] (fun r objs => r = .bool true ∧ objs = []) := f11 a outs x y more hl hl2 ho hmo
end Go.AM
end

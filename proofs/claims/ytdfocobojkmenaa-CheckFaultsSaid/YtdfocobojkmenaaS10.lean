/-
  Contract of CheckSuites; conditions in each statement.
-/
import Derived.Test.YtdfocobojkmenaaS9
set_option linter.unusedVariables false
set_option linter.unusedSimpArgs false
set_option linter.unusedSectionVars false
set_option linter.unnecessarySimpa false

/-! text Uk27 -/
section
namespace Go.AM
open Go Go.Proofs Go.Sort
/-- no more words than the product -/
theorem suf_len {N O : List (List Int)} {k e : Nat} : cntW (sufL N O k e) ≤ geo k (e + 1) * N.length * (telL N O k).length := by
  refine Nat.le_trans (cntW_le _) ?_
  rw [sufL, wB_len, midW_len, cov_len]
  exact Nat.le_of_eq (by rw [← Nat.mul_assoc, Nat.mul_comm N.length])
theorem sui_bad {N O l : List (List Int)} {x e : Int} (h : SuiR N O x l e) (hv : vmB N O = false) : e = 1 ∧ l = [] := by
  rcases h with ⟨_, h1, h2⟩ | ⟨h, _⟩ | ⟨h, _⟩ | ⟨h, _⟩
  · exact ⟨h1, h2⟩
  all_goals rw [hv] at h; cases h
theorem sui_arg {N O l : List (List Int)} {x e : Int} (h : SuiR N O x l e) (hv : vmB N O = true) (ha : fitB N O = false ∨ ¬ (0 ≤ x ∧ x ≤ 2)) : e = 2 ∧ l = [] := by
  rcases h with ⟨h, _⟩ | ⟨_, _, h1, h2⟩ | ⟨_, h1, h2, _⟩ | ⟨_, h1, h2, _⟩
  · rw [hv] at h; cases h
  · exact ⟨h1, h2⟩
  · rcases ha with ha | ha
    · rw [h1] at ha; cases ha
    · exact absurd h2 ha
  · rcases ha with ha | ha
    · rw [h1] at ha; cases ha
    · exact absurd h2 ha
theorem sui_ok {N O l : List (List Int)} {x e : Int} (h : SuiR N O x l e) (hv : vmB N O = true) (hf : fitB N O = true) (hx : 0 ≤ x ∧ x ≤ 2) :
    (20000 < cntW (sufL N O (N.getD 0 []).length x.toNat) ∧ e = 3 ∧ l = []) ∨ (cntW (sufL N O (N.getD 0 []).length x.toNat) ≤ 20000 ∧ e = 0 ∧ l = onceL (sufL N O (N.getD 0 []).length x.toNat)) := by
  rcases h with ⟨h, _⟩ | ⟨_, h | h, _⟩ | ⟨_, _, _, h⟩ | ⟨_, _, _, h⟩
  · rw [hv] at h; cases h
  · rw [hf] at h; cases h
  · exact absurd hx h
  · exact .inl h
  · exact .inr h
theorem suf_mem {N O : List (List Int)} {k e : Nat} (hV : VM N O k) (hAll : allC N k = true) {p : List Int} (h : p ∈ sufL N O k e) : (∀ z ∈ p, 0 ≤ z ∧ z < k) ∧ p.length ≤ 3661 + e := by
  obtain ⟨u, hu, v, hv, w, hw, rfl⟩ := mem_wB.1 h
  obtain ⟨a1, a2⟩ := covL_mem hV hAll hu
  obtain ⟨b1, b2⟩ := midW_mem _ [] (by simp) v hv
  obtain ⟨c1, c2⟩ := telL_mem hV hw
  refine ⟨fun z hz => ?_, ?_⟩
  · rcases List.mem_append.1 hz with hz | hz
    · rcases List.mem_append.1 hz with hz | hz
      · exact a1 z hz
      · exact b1 z hz
    · exact c1 z hz
  · rw [List.length_append, List.length_append]
    simp at b2; omega
/- mizmaze/mizmazelaw09.CheckSuites -/
def c4 : VCfg := ⟨⟨[], [], [], [0, 1, 2, 4, 5, 6, 7, 31, 39, 53, 80]⟩, [], [], []⟩
set_option maxHeartbeats 8000000 in
set_option maxRecDepth 100000 in
theorem f4 (N O : List (List Int)) (x : Int) (hl : N.length ≤ 4611686018427387904) (hl2 : O.length ≤ 4611686018427387904) :
    ACall Try.prog 4 [.agg [.pay (.rows (N)) (false), .pay (.rows (O)) (false)], .int .i64 x] (fun r objs => r = .bool true ∧ objs = []) := by
  refine acall_intro (tyP_ok _) c4 2000 [.tmp 4] Try.func4 rfl (by rfl) rfl (by kernel_rfl) ?_
  unfold Try.f4
  simp (config := {implicitDefEqProofs := false, maxSteps := 4000000}) (disch := omega) only [push_cast, c4, Nat.reduceAdd, Nat.reduceSub, Nat.reduceMul, Nat.reduceBEq, Int.reduceToNat, Int.reduceNeg, Int.reduceLE, Int.reduceLT, Int.reduceBEq, Int.reduceBNe, Int.reduceEq, Bool.not_true, Bool.not_false, eq_self, reduceCtorEq]
  refine callW_rel (f10 N O false false hl hl2) ?_
  rintro R O' ⟨b, rfl, hb, rfl⟩
  simp (config := {implicitDefEqProofs := false, maxSteps := 4000000}) (disch := omega) only [push_cast, c4, Nat.reduceAdd, Nat.reduceSub, Nat.reduceMul, Nat.reduceBEq, Int.reduceToNat, Int.reduceNeg, Int.reduceLE, Int.reduceLT, Int.reduceBEq, Int.reduceBNe, Int.reduceEq, Bool.not_true, Bool.not_false, eq_self, reduceCtorEq]
  refine ⟨fun h => ?_, fun h => ?_⟩
  · refine callW_eq _ _ (f11) ?_
    simp (config := {implicitDefEqProofs := false, maxSteps := 4000000}) (disch := omega) only [push_cast, c4, Nat.reduceAdd, Nat.reduceSub, Nat.reduceMul, Nat.reduceBEq, Int.reduceToNat, Int.reduceNeg, Int.reduceLE, Int.reduceLT, Int.reduceBEq, Int.reduceBNe, Int.reduceEq, Bool.not_true, Bool.not_false, eq_self, reduceCtorEq]
  have hb := nb (hb h)
  refine callW_eq _ _ (f14 N O false false hb.1.1 hb.1.2 hb.2.1 hb.2.2) ?_
  simp (config := {implicitDefEqProofs := false, maxSteps := 4000000}) (disch := omega) only [push_cast, c4, Nat.reduceAdd, Nat.reduceSub, Nat.reduceMul, Nat.reduceBEq, Int.reduceToNat, Int.reduceNeg, Int.reduceLE, Int.reduceLT, Int.reduceBEq, Int.reduceBNe, Int.reduceEq, Bool.not_true, Bool.not_false, eq_self, reduceCtorEq]
  refine ⟨fun hv => ⟨fun hx0 => ⟨fun hx2 => ?_, fun hx2 => ?_⟩, fun hx0 => ?_⟩, fun hv => ?_⟩
  · refine callW_eq _ _ (f15 N O false false hv) ?_
    simp (config := {implicitDefEqProofs := false, maxSteps := 4000000}) (disch := omega) only [push_cast, c4, Nat.reduceAdd, Nat.reduceSub, Nat.reduceMul, Nat.reduceBEq, Int.reduceToNat, Int.reduceNeg, Int.reduceLE, Int.reduceLT, Int.reduceBEq, Int.reduceBNe, Int.reduceEq, Bool.not_true, Bool.not_false, eq_self, reduceCtorEq]
    refine ⟨fun hf => ?_, fun hf => ?_⟩
    · obtain ⟨m, rfl⟩ : ∃ m : Nat, x = m := ⟨x.toNat, by omega⟩
      have hV := vmB_iff.1 hv
      have hAll := fit_all hf
      refine callW_eq _ _ (f19 N O false false _ hV m (by omega)) ?_
      simp (config := {implicitDefEqProofs := false, maxSteps := 4000000}) (disch := omega) only [push_cast, c4, Nat.reduceAdd, Nat.reduceSub, Nat.reduceMul, Nat.reduceBEq, Int.reduceToNat, Int.reduceNeg, Int.reduceLE, Int.reduceLT, Int.reduceBEq, Int.reduceBNe, Int.reduceEq, Bool.not_true, Bool.not_false, eq_self, reduceCtorEq]
      refine ⟨fun hbig => ?_, fun hsm => ?_⟩
      · refine callW_eq _ _ (f11) ?_
        simp (config := {implicitDefEqProofs := false, maxSteps := 4000000}) (disch := omega) only [push_cast, c4, Nat.reduceAdd, Nat.reduceSub, Nat.reduceMul, Nat.reduceBEq, Int.reduceToNat, Int.reduceNeg, Int.reduceLE, Int.reduceLT, Int.reduceBEq, Int.reduceBNe, Int.reduceEq, Bool.not_true, Bool.not_false, eq_self, reduceCtorEq]
      refine callW_rel (f20 N O false false m hb.1.1 hb.1.2 hb.2.1 hb.2.2) ?_
      rintro R O' ⟨l, e, nz, h9, rfl, rfl⟩
      simp (config := {implicitDefEqProofs := false, maxSteps := 4000000}) (disch := omega) only [push_cast, c4, Nat.reduceAdd, Nat.reduceSub, Nat.reduceMul, Nat.reduceBEq, Int.reduceToNat, Int.reduceNeg, Int.reduceLE, Int.reduceLT, Int.reduceBEq, Int.reduceBNe, Int.reduceEq, Bool.not_true, Bool.not_false, eq_self, reduceCtorEq]
      have h8 := sui_ok h9 hv hf (by omega)
      rw [Int.toNat_natCast] at h8
      refine callW_eq _ _ (f14 N O false false hb.1.1 hb.1.2 hb.2.1 hb.2.2) ?_
      simp (config := {implicitDefEqProofs := false, maxSteps := 4000000}) (disch := omega) only [push_cast, c4, Nat.reduceAdd, Nat.reduceSub, Nat.reduceMul, Nat.reduceBEq, Int.reduceToNat, Int.reduceNeg, Int.reduceLE, Int.reduceLT, Int.reduceBEq, Int.reduceBNe, Int.reduceEq, Bool.not_true, Bool.not_false, eq_self, reduceCtorEq]
      refine ⟨fun h => (by rw [hv] at h; cases h), fun _ => ?_⟩
      refine callW_eq _ _ (f15 N O false false hv) ?_
      simp (config := {implicitDefEqProofs := false, maxSteps := 4000000}) (disch := omega) only [push_cast, c4, Nat.reduceAdd, Nat.reduceSub, Nat.reduceMul, Nat.reduceBEq, Int.reduceToNat, Int.reduceNeg, Int.reduceLE, Int.reduceLT, Int.reduceBEq, Int.reduceBNe, Int.reduceEq, Bool.not_true, Bool.not_false, eq_self, reduceCtorEq]
      refine ⟨fun h => (by rw [hf] at h; cases h), fun _ => ⟨fun h => by omega, fun h => by omega, fun _ => ?_⟩⟩
      refine callW_rel (f21 N O false false _ hV hAll m (by omega)) ?_
      rintro R O' ⟨nz2, rfl, rfl⟩
      simp (config := {implicitDefEqProofs := false, maxSteps := 4000000}) (disch := omega) only [push_cast, c4, Nat.reduceAdd, Nat.reduceSub, Nat.reduceMul, Nat.reduceBEq, Int.reduceToNat, Int.reduceNeg, Int.reduceLE, Int.reduceLT, Int.reduceBEq, Int.reduceBNe, Int.reduceEq, Bool.not_true, Bool.not_false, eq_self, reduceCtorEq]
      have hcw : (onceL (sufL N O (N.getD 0 []).length m)).length = cntW (sufL N O (N.getD 0 []).length m) := rfl
      refine ⟨fun hb20 => ?_, fun hs20 => ?_⟩
      · rcases h8 with ⟨_, rfl, rfl⟩ | ⟨h8, _⟩
        · refine ⟨fun _ => ⟨fun _ => ?_, fun h => absurd rfl h⟩, fun h => absurd rfl h⟩
          refine callW_eq _ _ (f11) ?_
          simp (config := {implicitDefEqProofs := false, maxSteps := 4000000}) (disch := omega) only [push_cast, c4, Nat.reduceAdd, Nat.reduceSub, Nat.reduceMul, Nat.reduceBEq, Int.reduceToNat, Int.reduceNeg, Int.reduceLE, Int.reduceLT, Int.reduceBEq, Int.reduceBNe, Int.reduceEq, Bool.not_true, Bool.not_false, eq_self, reduceCtorEq]
        · omega
      · rcases h8 with ⟨h8, _⟩ | ⟨_, rfl, rfl⟩
        · omega
        · refine ⟨fun _ => ?_, fun h => absurd rfl h⟩
          refine callW_eq _ _ (f16 (onceL (sufL N O (N.getD 0 []).length m)) (onceL (sufL N O (N.getD 0 []).length m)) nz nz2 (by omega) (fun r hr => by have := (suf_mem hV hAll (mem_onceL.1 hr)).2; omega)) ?_
          simp (config := {implicitDefEqProofs := false, maxSteps := 4000000}) (disch := omega) only [push_cast, c4, Nat.reduceAdd, Nat.reduceSub, Nat.reduceMul, Nat.reduceBEq, Int.reduceToNat, Int.reduceNeg, Int.reduceLE, Int.reduceLT, Int.reduceBEq, Int.reduceBNe, Int.reduceEq, Bool.not_true, Bool.not_false, eq_self, reduceCtorEq]
          refine callW_eq _ _ (f11) ?_
          simp (config := {implicitDefEqProofs := false, maxSteps := 4000000}) (disch := omega) only [push_cast, c4, Nat.reduceAdd, Nat.reduceSub, Nat.reduceMul, Nat.reduceBEq, Int.reduceToNat, Int.reduceNeg, Int.reduceLE, Int.reduceLT, Int.reduceBEq, Int.reduceBNe, Int.reduceEq, Bool.not_true, Bool.not_false, eq_self, reduceCtorEq]
    · refine callW_rel (f20 N O false false x hb.1.1 hb.1.2 hb.2.1 hb.2.2) ?_
      rintro R O' ⟨l, e, nz, h9, rfl, rfl⟩
      simp (config := {implicitDefEqProofs := false, maxSteps := 4000000}) (disch := omega) only [push_cast, c4, Nat.reduceAdd, Nat.reduceSub, Nat.reduceMul, Nat.reduceBEq, Int.reduceToNat, Int.reduceNeg, Int.reduceLE, Int.reduceLT, Int.reduceBEq, Int.reduceBNe, Int.reduceEq, Bool.not_true, Bool.not_false, eq_self, reduceCtorEq]
      obtain ⟨rfl, rfl⟩ := sui_arg h9 hv (.inl hf)
      refine callW_eq _ _ (f14 N O false false hb.1.1 hb.1.2 hb.2.1 hb.2.2) ?_
      simp (config := {implicitDefEqProofs := false, maxSteps := 4000000}) (disch := omega) only [push_cast, c4, Nat.reduceAdd, Nat.reduceSub, Nat.reduceMul, Nat.reduceBEq, Int.reduceToNat, Int.reduceNeg, Int.reduceLE, Int.reduceLT, Int.reduceBEq, Int.reduceBNe, Int.reduceEq, Bool.not_true, Bool.not_false, eq_self, reduceCtorEq]
      refine ⟨fun h => (by rw [hv] at h; cases h), fun _ => ?_⟩
      refine callW_eq _ _ (f15 N O false false hv) ?_
      simp (config := {implicitDefEqProofs := false, maxSteps := 4000000}) (disch := omega) only [push_cast, c4, Nat.reduceAdd, Nat.reduceSub, Nat.reduceMul, Nat.reduceBEq, Int.reduceToNat, Int.reduceNeg, Int.reduceLE, Int.reduceLT, Int.reduceBEq, Int.reduceBNe, Int.reduceEq, Bool.not_true, Bool.not_false, eq_self, reduceCtorEq]
      refine ⟨fun _ => ?_, fun h => (by rw [hf] at h; cases h)⟩
      refine callW_eq _ _ (f11) ?_
      simp (config := {implicitDefEqProofs := false, maxSteps := 4000000}) (disch := omega) only [push_cast, c4, Nat.reduceAdd, Nat.reduceSub, Nat.reduceMul, Nat.reduceBEq, Int.reduceToNat, Int.reduceNeg, Int.reduceLE, Int.reduceLT, Int.reduceBEq, Int.reduceBNe, Int.reduceEq, Bool.not_true, Bool.not_false, eq_self, reduceCtorEq]
  · refine callW_rel (f20 N O false false x hb.1.1 hb.1.2 hb.2.1 hb.2.2) ?_
    rintro R O' ⟨l, e, nz, h9, rfl, rfl⟩
    simp (config := {implicitDefEqProofs := false, maxSteps := 4000000}) (disch := omega) only [push_cast, c4, Nat.reduceAdd, Nat.reduceSub, Nat.reduceMul, Nat.reduceBEq, Int.reduceToNat, Int.reduceNeg, Int.reduceLE, Int.reduceLT, Int.reduceBEq, Int.reduceBNe, Int.reduceEq, Bool.not_true, Bool.not_false, eq_self, reduceCtorEq]
    obtain ⟨rfl, rfl⟩ := sui_arg h9 hv (.inr (by omega))
    refine callW_eq _ _ (f14 N O false false hb.1.1 hb.1.2 hb.2.1 hb.2.2) ?_
    simp (config := {implicitDefEqProofs := false, maxSteps := 4000000}) (disch := omega) only [push_cast, c4, Nat.reduceAdd, Nat.reduceSub, Nat.reduceMul, Nat.reduceBEq, Int.reduceToNat, Int.reduceNeg, Int.reduceLE, Int.reduceLT, Int.reduceBEq, Int.reduceBNe, Int.reduceEq, Bool.not_true, Bool.not_false, eq_self, reduceCtorEq]
    refine ⟨fun h => (by rw [hv] at h; cases h), fun _ => ?_⟩
    refine callW_eq _ _ (f15 N O false false hv) ?_
    simp (config := {implicitDefEqProofs := false, maxSteps := 4000000}) (disch := omega) only [push_cast, c4, Nat.reduceAdd, Nat.reduceSub, Nat.reduceMul, Nat.reduceBEq, Int.reduceToNat, Int.reduceNeg, Int.reduceLE, Int.reduceLT, Int.reduceBEq, Int.reduceBNe, Int.reduceEq, Bool.not_true, Bool.not_false, eq_self, reduceCtorEq]
    refine ⟨fun _ => ?_, fun _ => ⟨fun _ => ?_, fun _ => ⟨fun _ => ?_, fun h => by omega⟩⟩⟩
    · refine callW_eq _ _ (f11) ?_
      simp (config := {implicitDefEqProofs := false, maxSteps := 4000000}) (disch := omega) only [push_cast, c4, Nat.reduceAdd, Nat.reduceSub, Nat.reduceMul, Nat.reduceBEq, Int.reduceToNat, Int.reduceNeg, Int.reduceLE, Int.reduceLT, Int.reduceBEq, Int.reduceBNe, Int.reduceEq, Bool.not_true, Bool.not_false, eq_self, reduceCtorEq]
    · refine callW_eq _ _ (f11) ?_
      simp (config := {implicitDefEqProofs := false, maxSteps := 4000000}) (disch := omega) only [push_cast, c4, Nat.reduceAdd, Nat.reduceSub, Nat.reduceMul, Nat.reduceBEq, Int.reduceToNat, Int.reduceNeg, Int.reduceLE, Int.reduceLT, Int.reduceBEq, Int.reduceBNe, Int.reduceEq, Bool.not_true, Bool.not_false, eq_self, reduceCtorEq]
    · refine callW_eq _ _ (f11) ?_
      simp (config := {implicitDefEqProofs := false, maxSteps := 4000000}) (disch := omega) only [push_cast, c4, Nat.reduceAdd, Nat.reduceSub, Nat.reduceMul, Nat.reduceBEq, Int.reduceToNat, Int.reduceNeg, Int.reduceLE, Int.reduceLT, Int.reduceBEq, Int.reduceBNe, Int.reduceEq, Bool.not_true, Bool.not_false, eq_self, reduceCtorEq]
  · refine callW_rel (f20 N O false false x hb.1.1 hb.1.2 hb.2.1 hb.2.2) ?_
    rintro R O' ⟨l, e, nz, h9, rfl, rfl⟩
    simp (config := {implicitDefEqProofs := false, maxSteps := 4000000}) (disch := omega) only [push_cast, c4, Nat.reduceAdd, Nat.reduceSub, Nat.reduceMul, Nat.reduceBEq, Int.reduceToNat, Int.reduceNeg, Int.reduceLE, Int.reduceLT, Int.reduceBEq, Int.reduceBNe, Int.reduceEq, Bool.not_true, Bool.not_false, eq_self, reduceCtorEq]
    obtain ⟨rfl, rfl⟩ := sui_arg h9 hv (.inr (by omega))
    refine callW_eq _ _ (f14 N O false false hb.1.1 hb.1.2 hb.2.1 hb.2.2) ?_
    simp (config := {implicitDefEqProofs := false, maxSteps := 4000000}) (disch := omega) only [push_cast, c4, Nat.reduceAdd, Nat.reduceSub, Nat.reduceMul, Nat.reduceBEq, Int.reduceToNat, Int.reduceNeg, Int.reduceLE, Int.reduceLT, Int.reduceBEq, Int.reduceBNe, Int.reduceEq, Bool.not_true, Bool.not_false, eq_self, reduceCtorEq]
    refine ⟨fun h => (by rw [hv] at h; cases h), fun _ => ?_⟩
    refine callW_eq _ _ (f15 N O false false hv) ?_
    simp (config := {implicitDefEqProofs := false, maxSteps := 4000000}) (disch := omega) only [push_cast, c4, Nat.reduceAdd, Nat.reduceSub, Nat.reduceMul, Nat.reduceBEq, Int.reduceToNat, Int.reduceNeg, Int.reduceLE, Int.reduceLT, Int.reduceBEq, Int.reduceBNe, Int.reduceEq, Bool.not_true, Bool.not_false, eq_self, reduceCtorEq]
    refine ⟨fun _ => ?_, fun _ => ⟨fun _ => ?_, fun _ => ⟨fun _ => ?_, fun h => by omega⟩⟩⟩
    · refine callW_eq _ _ (f11) ?_
      simp (config := {implicitDefEqProofs := false, maxSteps := 4000000}) (disch := omega) only [push_cast, c4, Nat.reduceAdd, Nat.reduceSub, Nat.reduceMul, Nat.reduceBEq, Int.reduceToNat, Int.reduceNeg, Int.reduceLE, Int.reduceLT, Int.reduceBEq, Int.reduceBNe, Int.reduceEq, Bool.not_true, Bool.not_false, eq_self, reduceCtorEq]
    · refine callW_eq _ _ (f11) ?_
      simp (config := {implicitDefEqProofs := false, maxSteps := 4000000}) (disch := omega) only [push_cast, c4, Nat.reduceAdd, Nat.reduceSub, Nat.reduceMul, Nat.reduceBEq, Int.reduceToNat, Int.reduceNeg, Int.reduceLE, Int.reduceLT, Int.reduceBEq, Int.reduceBNe, Int.reduceEq, Bool.not_true, Bool.not_false, eq_self, reduceCtorEq]
    · refine callW_eq _ _ (f11) ?_
      simp (config := {implicitDefEqProofs := false, maxSteps := 4000000}) (disch := omega) only [push_cast, c4, Nat.reduceAdd, Nat.reduceSub, Nat.reduceMul, Nat.reduceBEq, Int.reduceToNat, Int.reduceNeg, Int.reduceLE, Int.reduceLT, Int.reduceBEq, Int.reduceBNe, Int.reduceEq, Bool.not_true, Bool.not_false, eq_self, reduceCtorEq]
  · refine callW_rel (f20 N O false false x hb.1.1 hb.1.2 hb.2.1 hb.2.2) ?_
    rintro R O' ⟨l, e, nz, h9, rfl, rfl⟩
    simp (config := {implicitDefEqProofs := false, maxSteps := 4000000}) (disch := omega) only [push_cast, c4, Nat.reduceAdd, Nat.reduceSub, Nat.reduceMul, Nat.reduceBEq, Int.reduceToNat, Int.reduceNeg, Int.reduceLE, Int.reduceLT, Int.reduceBEq, Int.reduceBNe, Int.reduceEq, Bool.not_true, Bool.not_false, eq_self, reduceCtorEq]
    obtain ⟨rfl, rfl⟩ := sui_bad h9 hv
    refine callW_eq _ _ (f14 N O false false hb.1.1 hb.1.2 hb.2.1 hb.2.2) ?_
    simp (config := {implicitDefEqProofs := false, maxSteps := 4000000}) (disch := omega) only [push_cast, c4, Nat.reduceAdd, Nat.reduceSub, Nat.reduceMul, Nat.reduceBEq, Int.reduceToNat, Int.reduceNeg, Int.reduceLE, Int.reduceLT, Int.reduceBEq, Int.reduceBNe, Int.reduceEq, Bool.not_true, Bool.not_false, eq_self, reduceCtorEq]
    refine ⟨fun _ => ?_, fun h => (by rw [hv] at h; cases h)⟩
    refine callW_eq _ _ (f11) ?_
    simp (config := {implicitDefEqProofs := false, maxSteps := 4000000}) (disch := omega) only [push_cast, c4, Nat.reduceAdd, Nat.reduceSub, Nat.reduceMul, Nat.reduceBEq, Int.reduceToNat, Int.reduceNeg, Int.reduceLE, Int.reduceLT, Int.reduceBEq, Int.reduceBNe, Int.reduceEq, Bool.not_true, Bool.not_false, eq_self, reduceCtorEq]
theorem lawCheckSuites (N O : List (List Int)) (x : Int) (hl : N.length ≤ 4611686018427387904) (_ : ∀ r ∈ N, r.length ≤ 4611686018427387904) (ho : O.length ≤ 4611686018427387904) (_ : ∀ r ∈ O, r.length ≤ 4611686018427387904) :
    ACall Try.prog 4 [.agg [.pay (.rows (N)) (false), .pay (.rows (O)) (false)], .int .i64 x] (fun r objs => r = .bool true ∧ objs = []) := f4 N O x hl ho
end Go.AM
end

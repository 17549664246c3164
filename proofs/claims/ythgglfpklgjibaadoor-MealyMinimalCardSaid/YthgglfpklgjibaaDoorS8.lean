/-
  Contract of MealyApart; conditions in each statement.
-/
import Derived.Test.YthgglfpklgjibaaDoorS7
set_option linter.unusedVariables false
set_option linter.unusedSimpArgs false
set_option linter.unusedSectionVars false

/-! text Ud15 -/
section
namespace Go.AM
open Go Go.Proofs
/-- the bounds that a narrow machine has -/
theorem nb {N O : List (List Int)} (h : (N.length ≤ 100 ∧ ∀ r ∈ N, r.length ≤ 100) ∧ O.length ≤ 100 ∧ ∀ r ∈ O, r.length ≤ 100) : (N.length ≤ 4611686018427387904 ∧ ∀ r ∈ N, r.length ≤ 4611686018427387904) ∧ O.length ≤ 4611686018427387904 ∧ ∀ r ∈ O, r.length ≤ 4611686018427387904 :=
  ⟨⟨by have := h.1.1; omega, fun r hr => by have := h.1.2 r hr; omega⟩, by have := h.2.1; omega, fun r hr => by have := h.2.2 r hr; omega⟩
theorem TellR.len {N O M Q : List (List Int)} {x y : Int} {k : Nat} {w : List Int} {ok : Bool} (hN : VM N O k) (hM : VM M Q k) (hx : 0 ≤ x ∧ x < N.length) (hy : 0 ≤ y ∧ y < M.length) (h : TellR N O M Q x y k w ok) : w.length ≤ N.length * M.length := by
  have hb : BInv (dltP N M) (x, y) k (N.length * M.length) 0 (finP N M x y k) := bfs_inv _
  have hl := pair_len hN hM hx hy hb
  rcases h with ⟨i, c, h1, _, _, _, _, rfl, _⟩ | ⟨_, rfl, _⟩
  · have hs : (finP N M x y k).2.length = (finP N M x y k).1.length := hb.len
    have := wordOf_len hb.tree i (by omega)
    simp; omega
  · simp
theorem TellR.sm {N O M Q : List (List Int)} {x y : Int} {k : Nat} {w : List Int} {ok : Bool} (hN : VM N O k) (hM : VM M Q k) (hx : 0 ≤ x ∧ x < N.length) (hy : 0 ≤ y ∧ y < M.length) (h : TellR N O M Q x y k w ok) : w.length ≤ 3600 := by
  have h1 := h.len hN hM hx hy
  have h2 : N.length * M.length ≤ 60 * 60 := Nat.mul_le_mul hN.v.n2 hM.v.n2
  omega
theorem ap_bad {N O : List (List Int)} (z z' : Bool) (x y : Int) (hb : (N.length ≤ 4611686018427387904 ∧ ∀ r ∈ N, r.length ≤ 4611686018427387904) ∧ O.length ≤ 4611686018427387904 ∧ ∀ r ∈ O, r.length ≤ 4611686018427387904) (hv : vmB N O = false) :
    ACall Tryd.prog 13 [.agg [.pay (.rows (N)) (z), .pay (.rows (O)) (z')], .int .i64 x, .int .i64 y] (fun r objs => ∃ nz, r = .tup [.pay (.ints .i64 []) nz, .int .i64 1] ∧ objs = []) := by
  refine (f13 N O z z' x y hb.1.1 hb.1.2 hb.2.1 hb.2.2).mono ?_
  rintro r objs ⟨w, e, nz, ⟨_, rfl, rfl⟩ | ⟨h, _⟩ | ⟨h, _⟩, rfl, rfl⟩
  · exact ⟨nz, rfl, rfl⟩
  · rw [hv] at h; cases h
  · rw [hv] at h; cases h
theorem ap_out {N O : List (List Int)} (z z' : Bool) (x y : Int) (hb : (N.length ≤ 4611686018427387904 ∧ ∀ r ∈ N, r.length ≤ 4611686018427387904) ∧ O.length ≤ 4611686018427387904 ∧ ∀ r ∈ O, r.length ≤ 4611686018427387904) (hv : vmB N O = true) (hx : ¬ ((0 ≤ x ∧ x < N.length) ∧ 0 ≤ y ∧ y < N.length)) :
    ACall Tryd.prog 13 [.agg [.pay (.rows (N)) (z), .pay (.rows (O)) (z')], .int .i64 x, .int .i64 y] (fun r objs => ∃ nz, r = .tup [.pay (.ints .i64 []) nz, .int .i64 2] ∧ objs = []) := by
  refine (f13 N O z z' x y hb.1.1 hb.1.2 hb.2.1 hb.2.2).mono ?_
  rintro r objs ⟨w, e, nz, ⟨h, rfl, rfl⟩ | ⟨_, _, rfl, rfl⟩ | ⟨_, h, _⟩, rfl, rfl⟩
  · rw [hv] at h; cases h
  · exact ⟨nz, rfl, rfl⟩
  · exact absurd h hx
theorem ap_in {N O : List (List Int)} (z z' : Bool) (x y : Int) (hb : (N.length ≤ 4611686018427387904 ∧ ∀ r ∈ N, r.length ≤ 4611686018427387904) ∧ O.length ≤ 4611686018427387904 ∧ ∀ r ∈ O, r.length ≤ 4611686018427387904) (hv : vmB N O = true) (hx : (0 ≤ x ∧ x < N.length) ∧ 0 ≤ y ∧ y < N.length) :
    ACall Tryd.prog 13 [.agg [.pay (.rows (N)) (z), .pay (.rows (O)) (z')], .int .i64 x, .int .i64 y] (fun r objs => ∃ w nz b, TellR N O N O x y (N.getD 0 []).length w b ∧ r = .tup [.pay (.ints .i64 w) nz, .int .i64 (if b then 0 else 4)] ∧ objs = []) := by
  refine (f13 N O z z' x y hb.1.1 hb.1.2 hb.2.1 hb.2.2).mono ?_
  rintro r objs ⟨w, e, nz, ⟨h, rfl, rfl⟩ | ⟨_, h, _⟩ | ⟨_, _, ⟨h, rfl⟩ | ⟨h, rfl, _⟩⟩, rfl, rfl⟩
  · rw [hv] at h; cases h
  · exact absurd hx h
  · exact ⟨w, nz, true, h, rfl, rfl⟩
  · exact ⟨w, nz, false, h, rfl, rfl⟩
/- mizmaze/mizmazelaw07.MealyApart -/
def c3 : VCfg := ⟨⟨[], [], [], [0, 1, 2, 3, 6, 7, 8, 9, 10, 12, 21, 35, 65]⟩, [], [], []⟩
set_option maxHeartbeats 4000000 in
set_option maxRecDepth 100000 in
theorem f3 (N O : List (List Int)) (x y : Int) (hl : N.length ≤ 4611686018427387904) (hl2 : O.length ≤ 4611686018427387904) :
    ACall Tryd.prog 3 [.agg [.pay (.rows (N)) (false), .pay (.rows (O)) (false)], .int .i64 x, .int .i64 y] (fun r objs => r = .bool true ∧ objs = []) := by
  refine acall_intro (tyP_ok _) c3 2000 [.tmp 6] Tryd.func3 rfl (by rfl) rfl (by kernel_rfl) ?_
  unfold Tryd.f3
  simp (config := {implicitDefEqProofs := false, maxSteps := 4000000}) (disch := omega) only [push_cast, c3, Nat.reduceAdd, Nat.reduceSub, Nat.reduceMul, Nat.reduceBEq, Int.reduceToNat, Int.reduceNeg, Int.reduceLE, Int.reduceLT, Int.reduceBEq, Int.reduceBNe, Int.reduceEq, Bool.not_true, Bool.not_false, eq_self, reduceCtorEq]
  refine callW_rel (f11 N O false false hl hl2) ?_
  rintro R O' ⟨b, rfl, hb, rfl⟩
  simp (config := {implicitDefEqProofs := false, maxSteps := 4000000}) (disch := omega) only [push_cast, c3, Nat.reduceAdd, Nat.reduceSub, Nat.reduceMul, Nat.reduceBEq, Int.reduceToNat, Int.reduceNeg, Int.reduceLE, Int.reduceLT, Int.reduceBEq, Int.reduceBNe, Int.reduceEq, Bool.not_true, Bool.not_false, eq_self, reduceCtorEq]
  refine ⟨fun h => ?_, fun h => ?_⟩
  · refine callW_eq _ _ (f12) ?_
    simp (config := {implicitDefEqProofs := false, maxSteps := 4000000}) (disch := omega) only [push_cast, c3, Nat.reduceAdd, Nat.reduceSub, Nat.reduceMul, Nat.reduceBEq, Int.reduceToNat, Int.reduceNeg, Int.reduceLE, Int.reduceLT, Int.reduceBEq, Int.reduceBNe, Int.reduceEq, Bool.not_true, Bool.not_false, eq_self, reduceCtorEq]
  have hb := nb (hb h)
  cases hv : vmB N O with
  | false =>
    refine callW_rel (ap_bad false false x y hb hv) ?_
    rintro R O' ⟨nz, rfl, rfl⟩
    simp (config := {implicitDefEqProofs := false, maxSteps := 4000000}) (disch := omega) only [push_cast, c3, Nat.reduceAdd, Nat.reduceSub, Nat.reduceMul, Nat.reduceBEq, Int.reduceToNat, Int.reduceNeg, Int.reduceLE, Int.reduceLT, Int.reduceBEq, Int.reduceBNe, Int.reduceEq, Bool.not_true, Bool.not_false, eq_self, reduceCtorEq]
    refine callW_eq _ _ (f14 N O false false hb.1.1 hb.1.2 hb.2.1 hb.2.2) ?_
    simp (config := {implicitDefEqProofs := false, maxSteps := 4000000}) (disch := omega) only [push_cast, c3, Nat.reduceAdd, Nat.reduceSub, Nat.reduceMul, Nat.reduceBEq, Int.reduceToNat, Int.reduceNeg, Int.reduceLE, Int.reduceLT, Int.reduceBEq, Int.reduceBNe, Int.reduceEq, Bool.not_true, Bool.not_false, eq_self, reduceCtorEq]
    refine ⟨fun _ => ?_, fun h => by rw [hv] at h; cases h⟩
    refine callW_eq _ _ (f12) ?_
    simp (config := {implicitDefEqProofs := false, maxSteps := 4000000}) (disch := omega) only [push_cast, c3, Nat.reduceAdd, Nat.reduceSub, Nat.reduceMul, Nat.reduceBEq, Int.reduceToNat, Int.reduceNeg, Int.reduceLE, Int.reduceLT, Int.reduceBEq, Int.reduceBNe, Int.reduceEq, Bool.not_true, Bool.not_false, eq_self, reduceCtorEq]
  | true =>
    have hV := vmB_iff.1 hv
    have hn := hV.v.n2
    by_cases hx : (0 ≤ x ∧ x < N.length) ∧ 0 ≤ y ∧ y < N.length
    · refine callW_rel (ap_in false false x y hb hv hx) ?_
      rintro R O' ⟨w, nz, b2, hT, rfl, rfl⟩
      simp (config := {implicitDefEqProofs := false, maxSteps := 4000000}) (disch := omega) only [push_cast, c3, Nat.reduceAdd, Nat.reduceSub, Nat.reduceMul, Nat.reduceBEq, Int.reduceToNat, Int.reduceNeg, Int.reduceLE, Int.reduceLT, Int.reduceBEq, Int.reduceBNe, Int.reduceEq, Bool.not_true, Bool.not_false, eq_self, reduceCtorEq]
      refine callW_eq _ _ (f14 N O false false hb.1.1 hb.1.2 hb.2.1 hb.2.2) ?_
      simp (config := {implicitDefEqProofs := false, maxSteps := 4000000}) (disch := omega) only [push_cast, c3, Nat.reduceAdd, Nat.reduceSub, Nat.reduceMul, Nat.reduceBEq, Int.reduceToNat, Int.reduceNeg, Int.reduceLE, Int.reduceLT, Int.reduceBEq, Int.reduceBNe, Int.reduceEq, Bool.not_true, Bool.not_false, eq_self, reduceCtorEq]
      refine ⟨fun h => (by rw [hv] at h; cases h), fun _ => ?_⟩
      refine callW_eq _ _ (f15 N O false false x) ?_
      simp (config := {implicitDefEqProofs := false, maxSteps := 4000000}) (disch := omega) only [push_cast, c3, Nat.reduceAdd, Nat.reduceSub, Nat.reduceMul, Nat.reduceBEq, Int.reduceToNat, Int.reduceNeg, Int.reduceLE, Int.reduceLT, Int.reduceBEq, Int.reduceBNe, Int.reduceEq, Bool.not_true, Bool.not_false, eq_self, reduceCtorEq]
      refine ⟨fun h => absurd hx.1 h, fun _ => ?_⟩
      refine callW_eq _ _ (f15 N O false false y) ?_
      simp (config := {implicitDefEqProofs := false, maxSteps := 4000000}) (disch := omega) only [push_cast, c3, Nat.reduceAdd, Nat.reduceSub, Nat.reduceMul, Nat.reduceBEq, Int.reduceToNat, Int.reduceNeg, Int.reduceLE, Int.reduceLT, Int.reduceBEq, Int.reduceBNe, Int.reduceEq, Bool.not_true, Bool.not_false, eq_self, reduceCtorEq]
      refine ⟨fun h => absurd hx.2 h, fun _ => ?_⟩
      refine callW_rel (f16 N O N O false false false false x y _ hV hV hx.1 hx.2) ?_
      rintro R O' ⟨w2, b3, nz2, hT2, rfl, rfl⟩
      simp (config := {implicitDefEqProofs := false, maxSteps := 4000000}) (disch := omega) only [push_cast, c3, Nat.reduceAdd, Nat.reduceSub, Nat.reduceMul, Nat.reduceBEq, Int.reduceToNat, Int.reduceNeg, Int.reduceLE, Int.reduceLT, Int.reduceBEq, Int.reduceBNe, Int.reduceEq, Bool.not_true, Bool.not_false, eq_self, reduceCtorEq]
      obtain ⟨rfl, rfl⟩ := hT2.uniq hT
      cases b3 with
      | false =>
        have := hT.nil
        subst this
        simp (config := {implicitDefEqProofs := false, maxSteps := 4000000}) (disch := omega) only [push_cast, c3, Nat.reduceAdd, Nat.reduceSub, Nat.reduceMul, Nat.reduceBEq, Int.reduceToNat, Int.reduceNeg, Int.reduceLE, Int.reduceLT, Int.reduceBEq, Int.reduceBNe, Int.reduceEq, Bool.not_true, Bool.not_false, eq_self, reduceCtorEq]
        refine ⟨fun _ => ?_, fun h => absurd (if_neg id) h⟩
        refine callW_eq _ _ (f12) ?_
        simp (config := {implicitDefEqProofs := false, maxSteps := 4000000}) (disch := omega) only [push_cast, c3, Nat.reduceAdd, Nat.reduceSub, Nat.reduceMul, Nat.reduceBEq, Int.reduceToNat, Int.reduceNeg, Int.reduceLE, Int.reduceLT, Int.reduceBEq, Int.reduceBNe, Int.reduceEq, Bool.not_true, Bool.not_false, eq_self, reduceCtorEq]
      | true =>
        have hwl := hT.sm hV hV hx.1 hx.2
        simp (config := {implicitDefEqProofs := false, maxSteps := 4000000}) (disch := omega) only [push_cast, c3, Nat.reduceAdd, Nat.reduceSub, Nat.reduceMul, Nat.reduceBEq, Int.reduceToNat, Int.reduceNeg, Int.reduceLE, Int.reduceLT, Int.reduceBEq, Int.reduceBNe, Int.reduceEq, Bool.not_true, Bool.not_false, eq_self, reduceCtorEq]
        refine ⟨fun _ => ?_, fun h => absurd (if_pos trivial) h⟩
        refine callW_eq _ _ (f17 w2 w2 _ _ (by omega)) ?_
        simp (config := {implicitDefEqProofs := false, maxSteps := 4000000}) (disch := omega) only [push_cast, c3, Nat.reduceAdd, Nat.reduceSub, Nat.reduceMul, Nat.reduceBEq, Int.reduceToNat, Int.reduceNeg, Int.reduceLE, Int.reduceLT, Int.reduceBEq, Int.reduceBNe, Int.reduceEq, Bool.not_true, Bool.not_false, eq_self, reduceCtorEq]
        refine callW_eq _ _ (f12) ?_
        simp (config := {implicitDefEqProofs := false, maxSteps := 4000000}) (disch := omega) only [push_cast, c3, Nat.reduceAdd, Nat.reduceSub, Nat.reduceMul, Nat.reduceBEq, Int.reduceToNat, Int.reduceNeg, Int.reduceLE, Int.reduceLT, Int.reduceBEq, Int.reduceBNe, Int.reduceEq, Bool.not_true, Bool.not_false, eq_self, reduceCtorEq]
    · refine callW_rel (ap_out false false x y hb hv hx) ?_
      rintro R O' ⟨nz, rfl, rfl⟩
      simp (config := {implicitDefEqProofs := false, maxSteps := 4000000}) (disch := omega) only [push_cast, c3, Nat.reduceAdd, Nat.reduceSub, Nat.reduceMul, Nat.reduceBEq, Int.reduceToNat, Int.reduceNeg, Int.reduceLE, Int.reduceLT, Int.reduceBEq, Int.reduceBNe, Int.reduceEq, Bool.not_true, Bool.not_false, eq_self, reduceCtorEq]
      refine callW_eq _ _ (f14 N O false false hb.1.1 hb.1.2 hb.2.1 hb.2.2) ?_
      simp (config := {implicitDefEqProofs := false, maxSteps := 4000000}) (disch := omega) only [push_cast, c3, Nat.reduceAdd, Nat.reduceSub, Nat.reduceMul, Nat.reduceBEq, Int.reduceToNat, Int.reduceNeg, Int.reduceLE, Int.reduceLT, Int.reduceBEq, Int.reduceBNe, Int.reduceEq, Bool.not_true, Bool.not_false, eq_self, reduceCtorEq]
      refine ⟨fun h => (by rw [hv] at h; cases h), fun _ => ?_⟩
      refine callW_eq _ _ (f15 N O false false x) ?_
      simp (config := {implicitDefEqProofs := false, maxSteps := 4000000}) (disch := omega) only [push_cast, c3, Nat.reduceAdd, Nat.reduceSub, Nat.reduceMul, Nat.reduceBEq, Int.reduceToNat, Int.reduceNeg, Int.reduceLE, Int.reduceLT, Int.reduceBEq, Int.reduceBNe, Int.reduceEq, Bool.not_true, Bool.not_false, eq_self, reduceCtorEq]
      refine ⟨fun _ => ?_, fun h1 => ?_⟩
      · refine callW_eq _ _ (f12) ?_
        simp (config := {implicitDefEqProofs := false, maxSteps := 4000000}) (disch := omega) only [push_cast, c3, Nat.reduceAdd, Nat.reduceSub, Nat.reduceMul, Nat.reduceBEq, Int.reduceToNat, Int.reduceNeg, Int.reduceLE, Int.reduceLT, Int.reduceBEq, Int.reduceBNe, Int.reduceEq, Bool.not_true, Bool.not_false, eq_self, reduceCtorEq]
      refine callW_eq _ _ (f15 N O false false y) ?_
      simp (config := {implicitDefEqProofs := false, maxSteps := 4000000}) (disch := omega) only [push_cast, c3, Nat.reduceAdd, Nat.reduceSub, Nat.reduceMul, Nat.reduceBEq, Int.reduceToNat, Int.reduceNeg, Int.reduceLE, Int.reduceLT, Int.reduceBEq, Int.reduceBNe, Int.reduceEq, Bool.not_true, Bool.not_false, eq_self, reduceCtorEq]
      refine ⟨fun _ => ?_, fun h2 => absurd ⟨h1, h2⟩ hx⟩
      refine callW_eq _ _ (f12) ?_
      simp (config := {implicitDefEqProofs := false, maxSteps := 4000000}) (disch := omega) only [push_cast, c3, Nat.reduceAdd, Nat.reduceSub, Nat.reduceMul, Nat.reduceBEq, Int.reduceToNat, Int.reduceNeg, Int.reduceLE, Int.reduceLT, Int.reduceBEq, Int.reduceBNe, Int.reduceEq, Bool.not_true, Bool.not_false, eq_self, reduceCtorEq]
theorem lawMealyApart (N O : List (List Int)) (x y : Int) (hl : N.length ≤ 4611686018427387904) (_ : ∀ r ∈ N, r.length ≤ 4611686018427387904) (ho : O.length ≤ 4611686018427387904) (_ : ∀ r ∈ O, r.length ≤ 4611686018427387904) :
    ACall Tryd.prog 3 [.agg [.pay (.rows (N)) (false), .pay (.rows (O)) (false)], .int .i64 x, .int .i64 y] (fun r objs => r = .bool true ∧ objs = []) := f3 N O x y hl ho
end Go.AM
end

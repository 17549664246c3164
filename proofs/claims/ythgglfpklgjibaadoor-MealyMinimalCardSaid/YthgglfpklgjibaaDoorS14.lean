/-
  Contract of MealyMinimal; conditions in each statement.
-/
import Derived.Test.YthgglfpklgjibaaDoorS13
import Derived.Test.YthgglfpklgjibaaDoorP3
set_option linter.unusedVariables false
set_option linter.unusedSimpArgs false
set_option linter.unusedSectionVars false

/-! text Ud22 -/
section
namespace Go.AM
open Go Go.Proofs
def idL (n : Nat) : List Int := (List.range n).map fun (i : Nat) => (i : Int)
theorem idL_len (n : Nat) : (idL n).length = n := by simp [idL]
theorem idL_get {n i : Nat} (h : i < n) : (idL n).getD i 0 = i := by simp [idL, List.getD, h]
theorem cls_idL {N O : List (List Int)} {k : Nat} (hV : VM N O k) : clsT (minN N O k) (minO N O k) k = idL (cntT N O k) := by
  refine ints_eq' (by rw [clsT_len, minA_len, idL_len]) fun i hi => ?_
  rw [clsT_len, minA_len] at hi
  rw [idL_get hi]; exact cls_min hV hi
theorem cl_min {N O : List (List Int)} (z z' : Bool) (hv : vmB N O = true) :
    ACall Tryd.prog 25 [.agg [.pay (.rows (minN N O (N.getD 0 []).length)) (z), .pay (.rows (minO N O (N.getD 0 []).length)) (z')]] (fun r objs => r = .tup [.pay (.ints .i64 (idL (cntT N O (N.getD 0 []).length))) true, .int .i64 0] ∧ objs = []) := by
  have hV := vmB_iff.1 hv
  have h := cl_ok z z' (row_sm hV) (min_vm hV).ok
  rwa [(min_vm hV).k0, cls_idL hV] at h
theorem mn_min {N O : List (List Int)} (z z' : Bool) (hv : vmB N O = true) :
    ACall Tryd.prog 26 [.agg [.pay (.rows (minN N O (N.getD 0 []).length)) (z), .pay (.rows (minO N O (N.getD 0 []).length)) (z')]] (fun r objs => ∃ nz nz', r = .tup [.agg [.pay (.rows (minN N O (N.getD 0 []).length)) (nz), .pay (.rows (minO N O (N.getD 0 []).length)) (nz')], .int .i64 0] ∧ objs = []) := by
  have hV := vmB_iff.1 hv
  have h := mn_ok z z' (row_sm hV) (min_vm hV).ok
  rwa [(min_vm hV).k0, minN_min hV, minO_min hV] at h
theorem eq_cls {N O : List (List Int)} (z z' u u' : Bool) (s : Nat) (hb : nbB N O) (hv : vmB N O = true) (hs : s < N.length) :
    ACall Tryd.prog 23 [.agg [.pay (.rows (N)) (z), .pay (.rows (O)) (z')], .int .i64 s, .agg [.pay (.rows (minN N O (N.getD 0 []).length)) (u), .pay (.rows (minO N O (N.getD 0 []).length)) (u')], .int .i64 ((clsT N O (N.getD 0 []).length).getD s 0)] (fun r objs => ∃ w nz, r = .tup [.bool true, .pay (.ints .i64 w) nz, .int .i64 0] ∧ objs = []) := by
  have hV := vmB_iff.1 hv
  have hM := min_vm hV
  have hr := cls_rng (N := N) (O := O) (k := (N.getD 0 []).length) hs
  unfold atC at hr
  refine (eq_in z z' u u' s _ hb (row_sm hV) ⟨hv, hM.ok⟩ ⟨⟨by omega, by omega⟩, ⟨hr.1, by rw [minA_len]; exact hr.2⟩, hM.k0.symm⟩).mono ?_
  rintro r objs ⟨is, w, nz, h, rfl, rfl⟩
  have := TellR.min hV hs h
  cases is with
  | true => exact ⟨w, nz, rfl, rfl⟩
  | false => cases this
/- mizmaze/mizmazelaw07.MealyMinimal -/
def c10 : VCfg := ⟨⟨[], [], [], [0, 1, 2, 3, 4, 8, 9, 10, 11, 12, 13, 14, 15, 16, 17, 18, 19, 21, 22, 23, 24, 26, 27, 29, 36, 53, 97, 101, 109, 113, 133, 143, 176]⟩, [(19, (.op 0 .loose (.op 1 .loose (.op 2 .loose (.op 3 .loose (.op 4 .loose (.op 5 .loose (.op 6 .loose (.op 7 .eff (.op 8 .loose (.op 9 .loose (.op 10 .loose (.op 11 .loose (.op 12 .loose (.op 13 .loose (.op 14 .loose .nil)))))))))))))))), (27, (.op 0 .loose (.op 1 .loose (.op 2 .loose (.op 3 .loose (.op 4 .loose (.op 5 .loose (.op 6 .loose (.op 7 .loose (.op 8 .loose .nil))))))))))], [], []⟩
set_option maxHeartbeats 8000000 in
set_option maxRecDepth 100000 in
theorem f10 (N O : List (List Int)) (x y : Int) (v : List Int) (hl : N.length ≤ 4611686018427387904) (hl2 : O.length ≤ 4611686018427387904) (hvl : v.length ≤ 17592186044416) :
    ACall Tryd.prog 10 [.agg [.pay (.rows (N)) (false), .pay (.rows (O)) (false)], .int .i64 x, .int .i64 y, .pay (.ints .i64 v) false] (fun r objs => r = .bool true ∧ objs = []) := by
  refine acall_intro (tyP_ok _) c10 2000 [.tmp 8] Tryd.func10 rfl (by rfl) rfl (by kernel_rfl) ?_
  unfold Tryd.f10
  simp (config := {implicitDefEqProofs := false, maxSteps := 4000000}) (disch := omega) only [push_cast, c10, Nat.reduceAdd, Nat.reduceSub, Nat.reduceMul, Nat.reduceBEq, Int.reduceToNat, Int.reduceNeg, Int.reduceLE, Int.reduceLT, Int.reduceBEq, Int.reduceBNe, Int.reduceEq, Bool.not_true, Bool.not_false, eq_self, reduceCtorEq]
  refine callW_rel (f11 N O false false hl hl2) ?_
  rintro R O' ⟨b, rfl, hb, rfl⟩
  simp (config := {implicitDefEqProofs := false, maxSteps := 4000000}) (disch := omega) only [push_cast, c10, Nat.reduceAdd, Nat.reduceSub, Nat.reduceMul, Nat.reduceBEq, Int.reduceToNat, Int.reduceNeg, Int.reduceLE, Int.reduceLT, Int.reduceBEq, Int.reduceBNe, Int.reduceEq, Bool.not_true, Bool.not_false, eq_self, reduceCtorEq]
  refine ⟨fun h => ?_, fun h => ?_⟩
  · refine callW_eq _ _ (f12) ?_
    simp (config := {implicitDefEqProofs := false, maxSteps := 4000000}) (disch := omega) only [push_cast, c10, Nat.reduceAdd, Nat.reduceSub, Nat.reduceMul, Nat.reduceBEq, Int.reduceToNat, Int.reduceNeg, Int.reduceLE, Int.reduceLT, Int.reduceBEq, Int.reduceBNe, Int.reduceEq, Bool.not_true, Bool.not_false, eq_self, reduceCtorEq]
  have hN1 := (hb h).1.1
  have hb := nb (hb h)
  refine ⟨fun h => ?_, fun hw => ?_⟩
  · refine callW_eq _ _ (f12) ?_
    simp (config := {implicitDefEqProofs := false, maxSteps := 4000000}) (disch := omega) only [push_cast, c10, Nat.reduceAdd, Nat.reduceSub, Nat.reduceMul, Nat.reduceBEq, Int.reduceToNat, Int.reduceNeg, Int.reduceLE, Int.reduceLT, Int.reduceBEq, Int.reduceBNe, Int.reduceEq, Bool.not_true, Bool.not_false, eq_self, reduceCtorEq]
  cases hv : vmB N O with
  | false =>
    refine callW_eq _ _ (cl_bad false false hb hv) ?_
    simp (config := {implicitDefEqProofs := false, maxSteps := 4000000}) (disch := omega) only [push_cast, c10, Nat.reduceAdd, Nat.reduceSub, Nat.reduceMul, Nat.reduceBEq, Int.reduceToNat, Int.reduceNeg, Int.reduceLE, Int.reduceLT, Int.reduceBEq, Int.reduceBNe, Int.reduceEq, Bool.not_true, Bool.not_false, eq_self, reduceCtorEq]
    refine callW_rel (mn_bad false false hb hv) ?_
    rintro R O' ⟨nz, nz', rfl, rfl⟩
    simp (config := {implicitDefEqProofs := false, maxSteps := 4000000}) (disch := omega) only [push_cast, c10, Nat.reduceAdd, Nat.reduceSub, Nat.reduceMul, Nat.reduceBEq, Int.reduceToNat, Int.reduceNeg, Int.reduceLE, Int.reduceLT, Int.reduceBEq, Int.reduceBNe, Int.reduceEq, Bool.not_true, Bool.not_false, eq_self, reduceCtorEq]
    refine callW_eq _ _ (f12) ?_
    simp (config := {implicitDefEqProofs := false, maxSteps := 4000000}) (disch := omega) only [push_cast, c10, Nat.reduceAdd, Nat.reduceSub, Nat.reduceMul, Nat.reduceBEq, Int.reduceToNat, Int.reduceNeg, Int.reduceLE, Int.reduceLT, Int.reduceBEq, Int.reduceBNe, Int.reduceEq, Bool.not_true, Bool.not_false, eq_self, reduceCtorEq]
  | true =>
    have hV := vmB_iff.1 hv
    have hM := min_vm hV
    have hmb := row_sm hV
    have hmv := hM.ok
    have hcl := clsT_len (N := N) (O := O) (k := (N.getD 0 []).length)
    have hml := minA_len (N := N) (O := O) (k := (N.getD 0 []).length)
    have hcn : cntT N O (N.getD 0 []).length ≤ N.length := cntI_le _
    refine callW_eq _ _ (cl_ok false false hb hv) ?_
    simp (config := {implicitDefEqProofs := false, maxSteps := 4000000}) (disch := omega) only [push_cast, c10, Nat.reduceAdd, Nat.reduceSub, Nat.reduceMul, Nat.reduceBEq, Int.reduceToNat, Int.reduceNeg, Int.reduceLE, Int.reduceLT, Int.reduceBEq, Int.reduceBNe, Int.reduceEq, Bool.not_true, Bool.not_false, eq_self, reduceCtorEq]
    refine callW_rel (mn_ok false false hb hv) ?_
    rintro R O' ⟨nz, nz', rfl, rfl⟩
    simp (config := {implicitDefEqProofs := false, maxSteps := 4000000}) (disch := omega) only [push_cast, c10, Nat.reduceAdd, Nat.reduceSub, Nat.reduceMul, Nat.reduceBEq, Int.reduceToNat, Int.reduceNeg, Int.reduceLE, Int.reduceLT, Int.reduceBEq, Int.reduceBNe, Int.reduceEq, Bool.not_true, Bool.not_false, eq_self, reduceCtorEq]
    refine callW_rel (mn_min nz nz' hv) ?_
    rintro R O' ⟨nz2, nz3, rfl, rfl⟩
    simp (config := {implicitDefEqProofs := false, maxSteps := 4000000}) (disch := omega) only [push_cast, c10, Nat.reduceAdd, Nat.reduceSub, Nat.reduceMul, Nat.reduceBEq, Int.reduceToNat, Int.reduceNeg, Int.reduceLE, Int.reduceLT, Int.reduceBEq, Int.reduceBNe, Int.reduceEq, Bool.not_true, Bool.not_false, eq_self, reduceCtorEq]
    refine callW_eq _ _ (cl_min nz nz' hv) ?_
    simp (config := {implicitDefEqProofs := false, maxSteps := 4000000}) (disch := omega) only [push_cast, c10, Nat.reduceAdd, Nat.reduceSub, Nat.reduceMul, Nat.reduceBEq, Int.reduceToNat, Int.reduceNeg, Int.reduceLE, Int.reduceLT, Int.reduceBEq, Int.reduceBNe, Int.reduceEq, Bool.not_true, Bool.not_false, eq_self, reduceCtorEq]
    refine callW_eq _ _ (f21 _ _ _ _ _ _ _ _ hmb.1.1 hmb.1.2 hmb.2.1 hmb.2.2) ?_
    simp (config := {implicitDefEqProofs := false, maxSteps := 4000000}) (disch := omega) only [push_cast, c10, Nat.reduceAdd, Nat.reduceSub, Nat.reduceMul, Nat.reduceBEq, Int.reduceToNat, Int.reduceNeg, Int.reduceLE, Int.reduceLT, Int.reduceBEq, Int.reduceBNe, Int.reduceEq, Bool.not_true, Bool.not_false, eq_self, reduceCtorEq]
    have hil := idL_len (cntT N O (N.getD 0 []).length)
    refine ⟨fun h => absurd hcl h, fun _ => ⟨fun h => absurd (hil.trans hml.symm) h, fun _ => ?_⟩⟩
    refine awp_upd (tyP_ok _) c10 2000 [1, 2, 3, 4, 8, 9, 11, 15, 17] (cntT N O (N.getD 0 []).length) (fun _ => True) (fun i => [(17, .int .i64 i)]) (fun i => []) (by kernel_rfl) rfl ?_ ?_
    · trivial
    intro i hi _
    simp (config := {implicitDefEqProofs := false, maxSteps := 4000000}) (disch := omega) only [push_cast, c10, Nat.reduceAdd, Nat.reduceSub, Nat.reduceMul, Nat.reduceBEq, Int.reduceToNat, Int.reduceNeg, Int.reduceLE, Int.reduceLT, Int.reduceBEq, Int.reduceBNe, Int.reduceEq, Bool.not_true, Bool.not_false, eq_self, reduceCtorEq]
    refine ⟨fun hlt => ⟨hlt, fun h => h (idL_get (by omega)), fun _ => by omega⟩, fun _ => ?_⟩
    clear hi
    refine awp_upd (tyP_ok _) c10 2000 [1, 2, 3, 4, 8, 9, 11, 18] (N.length) (fun _ => True) (fun i => [(18, .int .i64 i)]) (fun i => []) (by kernel_rfl) rfl ?_ ?_
    · trivial
    intro i hi _
    simp (config := {implicitDefEqProofs := false, maxSteps := 4000000}) (disch := omega) only [push_cast, c10, Nat.reduceAdd, Nat.reduceSub, Nat.reduceMul, Nat.reduceBEq, Int.reduceToNat, Int.reduceNeg, Int.reduceLE, Int.reduceLT, Int.reduceBEq, Int.reduceBNe, Int.reduceEq, Bool.not_true, Bool.not_false, eq_self, reduceCtorEq]
    refine ⟨fun hlt => ?_, fun hge => ?_⟩
    · refine ⟨hlt, ?_⟩
      refine callW_rel (eq_cls false false nz nz' i hb hv (by omega)) ?_
      rintro R O' ⟨w, nz4, rfl, rfl⟩
      simp (config := {implicitDefEqProofs := false, maxSteps := 4000000}) (disch := omega) only [push_cast, c10, Nat.reduceAdd, Nat.reduceSub, Nat.reduceMul, Nat.reduceBEq, Int.reduceToNat, Int.reduceNeg, Int.reduceLE, Int.reduceLT, Int.reduceBEq, Int.reduceBNe, Int.reduceEq, Bool.not_true, Bool.not_false, eq_self, reduceCtorEq]
      omega
    have h100 := hV.v.n1
    refine callW_eq _ _ (f15 N O false false x) ?_
    simp (config := {implicitDefEqProofs := false, maxSteps := 4000000}) (disch := omega) only [push_cast, c10, Nat.reduceAdd, Nat.reduceSub, Nat.reduceMul, Nat.reduceBEq, Int.reduceToNat, Int.reduceNeg, Int.reduceLE, Int.reduceLT, Int.reduceBEq, Int.reduceBNe, Int.reduceEq, Bool.not_true, Bool.not_false, eq_self, reduceCtorEq]
    refine ⟨fun h => ?_, fun hx => ?_⟩
    · refine callW_eq _ _ (f12) ?_
      simp (config := {implicitDefEqProofs := false, maxSteps := 4000000}) (disch := omega) only [push_cast, c10, Nat.reduceAdd, Nat.reduceSub, Nat.reduceMul, Nat.reduceBEq, Int.reduceToNat, Int.reduceNeg, Int.reduceLE, Int.reduceLT, Int.reduceBEq, Int.reduceBNe, Int.reduceEq, Bool.not_true, Bool.not_false, eq_self, reduceCtorEq]
    refine callW_eq _ _ (f15 N O false false y) ?_
    simp (config := {implicitDefEqProofs := false, maxSteps := 4000000}) (disch := omega) only [push_cast, c10, Nat.reduceAdd, Nat.reduceSub, Nat.reduceMul, Nat.reduceBEq, Int.reduceToNat, Int.reduceNeg, Int.reduceLE, Int.reduceLT, Int.reduceBEq, Int.reduceBNe, Int.reduceEq, Bool.not_true, Bool.not_false, eq_self, reduceCtorEq]
    refine ⟨fun h => ?_, fun hy => ?_⟩
    · refine callW_eq _ _ (f12) ?_
      simp (config := {implicitDefEqProofs := false, maxSteps := 4000000}) (disch := omega) only [push_cast, c10, Nat.reduceAdd, Nat.reduceSub, Nat.reduceMul, Nat.reduceBEq, Int.reduceToNat, Int.reduceNeg, Int.reduceLE, Int.reduceLT, Int.reduceBEq, Int.reduceBNe, Int.reduceEq, Bool.not_true, Bool.not_false, eq_self, reduceCtorEq]
    refine callW_rel (ap_in false false x y hb hv ⟨hx, hy⟩) ?_
    rintro R O' ⟨w, nz4, b2, hT, rfl, rfl⟩
    simp (config := {implicitDefEqProofs := false, maxSteps := 4000000}) (disch := omega) only [push_cast, c10, Nat.reduceAdd, Nat.reduceSub, Nat.reduceMul, Nat.reduceBEq, Int.reduceToNat, Int.reduceNeg, Int.reduceLE, Int.reduceLT, Int.reduceBEq, Int.reduceBNe, Int.reduceEq, Bool.not_true, Bool.not_false, eq_self, reduceCtorEq]
    have hTc := TellR.cls hV hx hy hT
    unfold atC at hTc
    have hwl := hT.sm hV hV hx hy
    cases hvw : wordB (N.getD 0 []).length v with
    | true =>
      have hv2 := (wordB_iff.1 hvw).2
      have l1 := outsG_len N O v x
      have l2 := outsG_len N O v y
      refine callW_eq _ _ (rn_ok false false false x v hb (by omega) hv ⟨hx, hvw⟩) ?_
      simp (config := {implicitDefEqProofs := false, maxSteps := 4000000}) (disch := omega) only [push_cast, c10, Nat.reduceAdd, Nat.reduceSub, Nat.reduceMul, Nat.reduceBEq, Int.reduceToNat, Int.reduceNeg, Int.reduceLE, Int.reduceLT, Int.reduceBEq, Int.reduceBNe, Int.reduceEq, Bool.not_true, Bool.not_false, eq_self, reduceCtorEq]
      refine callW_eq _ _ (rn_ok false false false y v hb (by omega) hv ⟨hy, hvw⟩) ?_
      simp (config := {implicitDefEqProofs := false, maxSteps := 4000000}) (disch := omega) only [push_cast, c10, Nat.reduceAdd, Nat.reduceSub, Nat.reduceMul, Nat.reduceBEq, Int.reduceToNat, Int.reduceNeg, Int.reduceLE, Int.reduceLT, Int.reduceBEq, Int.reduceBNe, Int.reduceEq, Bool.not_true, Bool.not_false, eq_self, reduceCtorEq]
      refine ⟨⟨hx.1, by omega⟩, ⟨hy.1, by omega⟩, fun hne => ?_, fun heq => ?_⟩
      · have hb2 : b2 = true := by
          cases b2 with
          | true => rfl
          | false => exact absurd (hTc.1 rfl) hne
        subst hb2
        have h0 := List.length_pos_iff.2 (hT.first hV hV hx hy).2.1
        refine ⟨fun _ => ⟨fun _ => ?_, fun h => by omega⟩, fun h => h (if_pos rfl)⟩
        refine callW_eq _ _ (f12) ?_
        simp (config := {implicitDefEqProofs := false, maxSteps := 4000000}) (disch := omega) only [push_cast, c10, Nat.reduceAdd, Nat.reduceSub, Nat.reduceMul, Nat.reduceBEq, Int.reduceToNat, Int.reduceNeg, Int.reduceLE, Int.reduceLT, Int.reduceBEq, Int.reduceBNe, Int.reduceEq, Bool.not_true, Bool.not_false, eq_self, reduceCtorEq]
      · have hb2 := hTc.2 heq
        subst hb2
        refine ⟨fun _ => ?_, fun h => h (if_neg (by decide))⟩
        rw [hT.none hV hV hx hy v hv2]
        refine callW_eq _ _ (f17 _ _ _ _ (by omega)) ?_
        simp (config := {implicitDefEqProofs := false, maxSteps := 4000000}) (disch := omega) only [push_cast, c10, Nat.reduceAdd, Nat.reduceSub, Nat.reduceMul, Nat.reduceBEq, Int.reduceToNat, Int.reduceNeg, Int.reduceLE, Int.reduceLT, Int.reduceBEq, Int.reduceBNe, Int.reduceEq, Bool.not_true, Bool.not_false, eq_self, reduceCtorEq]
        refine callW_eq _ _ (f12) ?_
        simp (config := {implicitDefEqProofs := false, maxSteps := 4000000}) (disch := omega) only [push_cast, c10, Nat.reduceAdd, Nat.reduceSub, Nat.reduceMul, Nat.reduceBEq, Int.reduceToNat, Int.reduceNeg, Int.reduceLE, Int.reduceLT, Int.reduceBEq, Int.reduceBNe, Int.reduceEq, Bool.not_true, Bool.not_false, eq_self, reduceCtorEq]
    | false =>
      have hn : ∀ s : Int, ¬ ((0 ≤ s ∧ s < N.length) ∧ wordB (N.getD 0 []).length v = true) := fun s h => by rw [hvw] at h; cases h.2
      refine callW_eq _ _ (rn_wd false false false x v hb (by omega) hv (hn x)) ?_
      simp (config := {implicitDefEqProofs := false, maxSteps := 4000000}) (disch := omega) only [push_cast, c10, Nat.reduceAdd, Nat.reduceSub, Nat.reduceMul, Nat.reduceBEq, Int.reduceToNat, Int.reduceNeg, Int.reduceLE, Int.reduceLT, Int.reduceBEq, Int.reduceBNe, Int.reduceEq, Bool.not_true, Bool.not_false, eq_self, reduceCtorEq]
      refine callW_eq _ _ (rn_wd false false false y v hb (by omega) hv (hn y)) ?_
      simp (config := {implicitDefEqProofs := false, maxSteps := 4000000}) (disch := omega) only [push_cast, c10, Nat.reduceAdd, Nat.reduceSub, Nat.reduceMul, Nat.reduceBEq, Int.reduceToNat, Int.reduceNeg, Int.reduceLE, Int.reduceLT, Int.reduceBEq, Int.reduceBNe, Int.reduceEq, Bool.not_true, Bool.not_false, eq_self, reduceCtorEq]
      refine ⟨⟨hx.1, by omega⟩, ⟨hy.1, by omega⟩, fun hne => ?_, fun heq => ?_⟩
      · have hb2 : b2 = true := by
          cases b2 with
          | true => rfl
          | false => exact absurd (hTc.1 rfl) hne
        subst hb2
        have h0 := List.length_pos_iff.2 (hT.first hV hV hx hy).2.1
        refine ⟨fun _ => ⟨fun _ => ?_, fun h => by omega⟩, fun h => h (if_pos rfl)⟩
        refine callW_eq _ _ (f12) ?_
        simp (config := {implicitDefEqProofs := false, maxSteps := 4000000}) (disch := omega) only [push_cast, c10, Nat.reduceAdd, Nat.reduceSub, Nat.reduceMul, Nat.reduceBEq, Int.reduceToNat, Int.reduceNeg, Int.reduceLE, Int.reduceLT, Int.reduceBEq, Int.reduceBNe, Int.reduceEq, Bool.not_true, Bool.not_false, eq_self, reduceCtorEq]
      · have hb2 := hTc.2 heq
        subst hb2
        refine ⟨fun _ => ?_, fun h => h (if_neg (by decide))⟩
        refine callW_eq _ _ (f17 [] [] _ _ (by decide)) ?_
        simp (config := {implicitDefEqProofs := false, maxSteps := 4000000}) (disch := omega) only [push_cast, c10, Nat.reduceAdd, Nat.reduceSub, Nat.reduceMul, Nat.reduceBEq, Int.reduceToNat, Int.reduceNeg, Int.reduceLE, Int.reduceLT, Int.reduceBEq, Int.reduceBNe, Int.reduceEq, Bool.not_true, Bool.not_false, eq_self, reduceCtorEq]
        refine callW_eq _ _ (f12) ?_
        simp (config := {implicitDefEqProofs := false, maxSteps := 4000000}) (disch := omega) only [push_cast, c10, Nat.reduceAdd, Nat.reduceSub, Nat.reduceMul, Nat.reduceBEq, Int.reduceToNat, Int.reduceNeg, Int.reduceLE, Int.reduceLT, Int.reduceBEq, Int.reduceBNe, Int.reduceEq, Bool.not_true, Bool.not_false, eq_self, reduceCtorEq]
theorem lawMealyMinimal (N O : List (List Int)) (x y : Int) (v : List Int) (hl : N.length ≤ 4611686018427387904) (_ : ∀ r ∈ N, r.length ≤ 4611686018427387904) (ho : O.length ≤ 4611686018427387904) (_ : ∀ r ∈ O, r.length ≤ 4611686018427387904) (hv : v.length ≤ 17592186044416) :
    ACall Tryd.prog 10 [.agg [.pay (.rows (N)) (false), .pay (.rows (O)) (false)], .int .i64 x, .int .i64 y, .pay (.ints .i64 v) false] (fun r objs => r = .bool true ∧ objs = []) := f10 N O x y v hl ho hv
end Go.AM
end

/-
  Contracts of AutoUnions; conditions in each statement.
-/
import Derived.Test.YtnfflhaehdehaaaGreatDoorS4
set_option linter.unusedVariables false
set_option linter.unusedSimpArgs false
set_option linter.unusedSectionVars false

/-! text Ua9 -/
section
namespace Go.AM
open Go Go.Proofs
def joinL2 (n : Nat) (l m : List Int) : List Int := fromTo n fun x => decide (x ∈ l) || decide (x ∈ m)
def restL (n : Nat) (l : List Int) : List Int := fromTo n fun x => !decide (x ∈ l)
/- mizmaze/mizmazelaw01.join -/
def c23 : VCfg := ⟨⟨[], [], [7], [0, 1, 2, 6, 7, 8, 11, 21]⟩, [], [], []⟩
theorem f23 (n : Nat) (l m : List Int) (z z' : Bool) (hn : n ≤ 1000) (hl : l.length ≤ 4611686018427387904) (hm : m.length ≤ 4611686018427387904) :
    ACall Tryz.prog 23 [.int .i64 n, .pay (.ints .i64 l) z, .pay (.ints .i64 m) z'] (fun r objs => r = .own 0 ∧ objs = [.arr (.ints .i64 (joinL2 n l m)) ⟨3, true⟩]) := by
  refine acall_intro (tyP_ok _) c23 2000 [.tmp 6] Tryz.func23 rfl (by rfl) rfl (by kernel_rfl) ?_
  unfold Tryz.f23
  simp (config := {implicitDefEqProofs := false, maxSteps := 4000000}) (disch := omega) only [push_cast, c23, Nat.reduceAdd, Nat.reduceSub, Nat.reduceMul, Nat.reduceBEq, Int.reduceToNat, Int.reduceNeg, Int.reduceLE, Int.reduceLT, Int.reduceBEq, Int.reduceBNe, Int.reduceEq, Bool.not_true, Bool.not_false, eq_self, reduceCtorEq]
  refine awp_upd (tyP_ok _) c23 2000 [0, 1, 2, 6, 7, 8] (n) (fun _ => True) (fun i => [(8, .int .i64 i)]) (fun i => [(0, .arr (.ints .i64 (fromTo i fun x => decide (x ∈ l) || decide (x ∈ m))) ⟨3, true⟩)]) (by kernel_rfl) rfl ?_ ?_
  · trivial
  intro i hi _
  simp (config := {implicitDefEqProofs := false, maxSteps := 4000000}) (disch := omega) only [push_cast, c23, Nat.reduceAdd, Nat.reduceSub, Nat.reduceMul, Nat.reduceBEq, Int.reduceToNat, Int.reduceNeg, Int.reduceLE, Int.reduceLT, Int.reduceBEq, Int.reduceBNe, Int.reduceEq, Bool.not_true, Bool.not_false, eq_self, reduceCtorEq]
  have hfl := fromTo_len i fun x => decide (x ∈ l) || decide (x ∈ m)
  have hst := fromTo_succ i fun x => decide (x ∈ l) || decide (x ∈ m)
  refine ⟨fun hlt => ?_, fun hge => by rw [show i = n by omega]; rfl⟩
  refine callW_eq _ _ (f25 l z i hl) ?_
  simp (config := {implicitDefEqProofs := false, maxSteps := 4000000}) (disch := omega) only [push_cast, c23, Nat.reduceAdd, Nat.reduceSub, Nat.reduceMul, Nat.reduceBEq, Int.reduceToNat, Int.reduceNeg, Int.reduceLE, Int.reduceLT, Int.reduceBEq, Int.reduceBNe, Int.reduceEq, Bool.not_true, Bool.not_false, eq_self, reduceCtorEq]
  rw [hst]
  refine ⟨fun h1 => ?_, fun h1 => ?_⟩
  · exact ⟨by omega, hlt, by rw [if_pos (by simp [h1])]⟩
  · refine callW_eq _ _ (f25 m z' i hm) ?_
    simp (config := {implicitDefEqProofs := false, maxSteps := 4000000}) (disch := omega) only [push_cast, c23, Nat.reduceAdd, Nat.reduceSub, Nat.reduceMul, Nat.reduceBEq, Int.reduceToNat, Int.reduceNeg, Int.reduceLE, Int.reduceLT, Int.reduceBEq, Int.reduceBNe, Int.reduceEq, Bool.not_true, Bool.not_false, eq_self, reduceCtorEq]
    exact ⟨fun h2 => ⟨by omega, hlt, by rw [hst, if_pos (by simp [h2])]⟩, fun h2 => ⟨hlt, by rw [hst, if_neg (by simp [h1, h2]), List.append_nil]⟩⟩
/- mizmaze/mizmazelaw01.rest -/
def c24 : VCfg := ⟨⟨[], [], [5], [0, 1, 4, 5, 6, 9, 15]⟩, [], [], []⟩
theorem f24 (n : Nat) (l : List Int) (z : Bool) (hn : n ≤ 1000) (hl : l.length ≤ 4611686018427387904) :
    ACall Tryz.prog 24 [.int .i64 n, .pay (.ints .i64 l) z] (fun r objs => r = .own 0 ∧ objs = [.arr (.ints .i64 (restL n l)) ⟨3, true⟩]) := by
  refine acall_intro (tyP_ok _) c24 2000 [.tmp 4] Tryz.func24 rfl (by rfl) rfl (by kernel_rfl) ?_
  unfold Tryz.f24
  simp (config := {implicitDefEqProofs := false, maxSteps := 4000000}) (disch := omega) only [push_cast, c24, Nat.reduceAdd, Nat.reduceSub, Nat.reduceMul, Nat.reduceBEq, Int.reduceToNat, Int.reduceNeg, Int.reduceLE, Int.reduceLT, Int.reduceBEq, Int.reduceBNe, Int.reduceEq, Bool.not_true, Bool.not_false, eq_self, reduceCtorEq]
  refine awp_upd (tyP_ok _) c24 2000 [0, 1, 4, 5, 6] (n) (fun _ => True) (fun i => [(6, .int .i64 i)]) (fun i => [(0, .arr (.ints .i64 (fromTo i fun x => !decide (x ∈ l))) ⟨3, true⟩)]) (by kernel_rfl) rfl ?_ ?_
  · trivial
  intro i hi _
  simp (config := {implicitDefEqProofs := false, maxSteps := 4000000}) (disch := omega) only [push_cast, c24, Nat.reduceAdd, Nat.reduceSub, Nat.reduceMul, Nat.reduceBEq, Int.reduceToNat, Int.reduceNeg, Int.reduceLE, Int.reduceLT, Int.reduceBEq, Int.reduceBNe, Int.reduceEq, Bool.not_true, Bool.not_false, eq_self, reduceCtorEq]
  have hfl := fromTo_len i fun x => !decide (x ∈ l)
  have hst := fromTo_succ i fun x => !decide (x ∈ l)
  refine ⟨fun hlt => ?_, fun hge => by rw [show i = n by omega]; rfl⟩
  refine callW_eq _ _ (f25 l z i hl) ?_
  simp (config := {implicitDefEqProofs := false, maxSteps := 4000000}) (disch := omega) only [push_cast, c24, Nat.reduceAdd, Nat.reduceSub, Nat.reduceMul, Nat.reduceBEq, Int.reduceToNat, Int.reduceNeg, Int.reduceLE, Int.reduceLT, Int.reduceBEq, Int.reduceBNe, Int.reduceEq, Bool.not_true, Bool.not_false, eq_self, reduceCtorEq]
  rw [hst]
  exact ⟨fun h1 => ⟨by omega, hlt, by rw [if_pos (by simp [h1])]⟩, fun h1 => ⟨hlt, by rw [if_neg (by simp [h1]), List.append_nil]⟩⟩
theorem image_join {a : List (List Int)} {set other w : List Int} {k : Nat} (hv : Vld a k) (hs : setOk a.length set) (ho : setOk a.length other) : imageL a (joinL2 a.length set other) w = joinL2 a.length (imageL a set w) (imageL a other w) := by
  refine fromTo_congr fun t h0 h1 => ?_
  rw [Bool.eq_iff_iff]
  simp only [List.any_eq_true, beq_iff_eq, imageL, joinL2, mem_fromTo, Bool.or_eq_true, decide_eq_true_eq]
  constructor
  · rintro ⟨s, ⟨_, h | h⟩, h2⟩
    · exact .inl ⟨⟨h0, h1⟩, s, h, h2⟩
    · exact .inr ⟨⟨h0, h1⟩, s, h, h2⟩
  · rintro (⟨_, s, h, h2⟩ | ⟨_, s, h, h2⟩)
    · exact ⟨s, ⟨hs.1 s h, .inl h⟩, h2⟩
    · exact ⟨s, ⟨ho.1 s h, .inr h⟩, h2⟩
theorem pre_rest {a : List (List Int)} {set w : List Int} {k : Nat} (hv : Vld a k) (hw : ∀ x ∈ w, 0 ≤ x ∧ x < k) : preL a (fun x => decide (x ∈ restL a.length set)) w = restL a.length (preL a (fun x => decide (x ∈ set)) w) := by
  refine fromTo_congr fun t h0 h1 => ?_
  have := hv.lead w (s := t) h0 (by omega) hw
  rw [Bool.eq_iff_iff]
  simp only [preL, restL, mem_fromTo, decide_eq_true_eq, Bool.not_eq_true', decide_eq_false_iff_not, not_and]
  exact ⟨fun h _ => h.2, fun h => ⟨this, h ⟨h0, h1⟩⟩⟩
/- mizmaze/mizmazelaw01.AutoUnions -/
def c6 : VCfg := ⟨⟨[], [], [], [0, 1, 2, 3, 4, 8, 9, 10, 11, 12, 13, 14, 15, 16, 17, 18, 19, 20, 41, 88, 118, 121, 141]⟩, [(6, (.op 0 .loose (.op 1 .loose (.op 2 .loose (.op 3 .loose (.op 5 .loose (.op 4 .eff (.op 6 .eff (.op 7 .loose (.op 8 .loose (.op 9 .loose (.op 10 .loose (.op 11 .loose .nil))))))))))))), (10, (.op 0 .loose (.op 1 .loose (.op 2 .loose (.op 4 .loose (.op 3 .eff (.op 5 .eff (.op 6 .loose (.op 7 .loose (.op 8 .loose (.op 9 .loose (.op 10 .loose .nil))))))))))))], [], []⟩
set_option maxHeartbeats 8000000 in
theorem f6 (a : List (List Int)) (set other w : List Int) (hl : a.length ≤ 4611686018427387904) (hl2 : ∀ r ∈ a, r.length ≤ 4611686018427387904) (hsl : set.length ≤ 4611686018427387904) (hul : other.length ≤ 17592186044416) (hvl : w.length ≤ 17592186044416) :
    ACall Tryz.prog 6 [.agg [.pay (.rows a) false], .pay (.ints .i64 set) false, .pay (.ints .i64 other) false, .pay (.ints .i64 w) false] (fun r objs => r = .bool true ∧ objs = []) := by
  refine acall_intro (tyP_ok _) c6 2000 [.tmp 8] Tryz.func6 rfl (by rfl) rfl (by kernel_rfl) ?_
  unfold Tryz.f6
  simp (config := {implicitDefEqProofs := false, maxSteps := 4000000}) (disch := omega) only [push_cast, c6, Nat.reduceAdd, Nat.reduceSub, Nat.reduceMul, Nat.reduceBEq, Int.reduceToNat, Int.reduceNeg, Int.reduceLE, Int.reduceLT, Int.reduceBEq, Int.reduceBNe, Int.reduceEq, Bool.not_true, Bool.not_false, eq_self, reduceCtorEq]
  refine callW_eq _ _ (f12 a false hl hl2) ?_
  simp (config := {implicitDefEqProofs := false, maxSteps := 4000000}) (disch := omega) only [push_cast, c6, Nat.reduceAdd, Nat.reduceSub, Nat.reduceMul, Nat.reduceBEq, Int.reduceToNat, Int.reduceNeg, Int.reduceLE, Int.reduceLT, Int.reduceBEq, Int.reduceBNe, Int.reduceEq, Bool.not_true, Bool.not_false, eq_self, reduceCtorEq]
  refine ⟨fun hv => ?_, fun hv => ?_⟩
  · refine callW_eq _ _ (f16) ?_
    simp (config := {implicitDefEqProofs := false, maxSteps := 4000000}) (disch := omega) only [push_cast, c6, Nat.reduceAdd, Nat.reduceSub, Nat.reduceMul, Nat.reduceBEq, Int.reduceToNat, Int.reduceNeg, Int.reduceLE, Int.reduceLT, Int.reduceBEq, Int.reduceBNe, Int.reduceEq, Bool.not_true, Bool.not_false, eq_self, reduceCtorEq]
  have hV := vldB_iff.1 hv
  have hn := hV.n2
  have hn0 := hV.n1
  refine callW_eq _ _ (f19 a false false set hl hsl) ?_
  simp (config := {implicitDefEqProofs := false, maxSteps := 4000000}) (disch := omega) only [push_cast, c6, Nat.reduceAdd, Nat.reduceSub, Nat.reduceMul, Nat.reduceBEq, Int.reduceToNat, Int.reduceNeg, Int.reduceLE, Int.reduceLT, Int.reduceBEq, Int.reduceBNe, Int.reduceEq, Bool.not_true, Bool.not_false, eq_self, reduceCtorEq]
  refine ⟨fun hS => ?_, fun hS => ?_⟩
  · refine callW_eq _ _ (f16) ?_
    simp (config := {implicitDefEqProofs := false, maxSteps := 4000000}) (disch := omega) only [push_cast, c6, Nat.reduceAdd, Nat.reduceSub, Nat.reduceMul, Nat.reduceBEq, Int.reduceToNat, Int.reduceNeg, Int.reduceLE, Int.reduceLT, Int.reduceBEq, Int.reduceBNe, Int.reduceEq, Bool.not_true, Bool.not_false, eq_self, reduceCtorEq]
  refine callW_eq _ _ (f19 a false false other hl (by omega)) ?_
  simp (config := {implicitDefEqProofs := false, maxSteps := 4000000}) (disch := omega) only [push_cast, c6, Nat.reduceAdd, Nat.reduceSub, Nat.reduceMul, Nat.reduceBEq, Int.reduceToNat, Int.reduceNeg, Int.reduceLE, Int.reduceLT, Int.reduceBEq, Int.reduceBNe, Int.reduceEq, Bool.not_true, Bool.not_false, eq_self, reduceCtorEq]
  refine ⟨fun hU => ?_, fun hU => ?_⟩
  · refine callW_eq _ _ (f16) ?_
    simp (config := {implicitDefEqProofs := false, maxSteps := 4000000}) (disch := omega) only [push_cast, c6, Nat.reduceAdd, Nat.reduceSub, Nat.reduceMul, Nat.reduceBEq, Int.reduceToNat, Int.reduceNeg, Int.reduceLE, Int.reduceLT, Int.reduceBEq, Int.reduceBNe, Int.reduceEq, Bool.not_true, Bool.not_false, eq_self, reduceCtorEq]
  refine callW_eq _ _ (f14 a false false w (by omega) (by omega)) ?_
  simp (config := {implicitDefEqProofs := false, maxSteps := 4000000}) (disch := omega) only [push_cast, c6, Nat.reduceAdd, Nat.reduceSub, Nat.reduceMul, Nat.reduceBEq, Int.reduceToNat, Int.reduceNeg, Int.reduceLE, Int.reduceLT, Int.reduceBEq, Int.reduceBNe, Int.reduceEq, Bool.not_true, Bool.not_false, eq_self, reduceCtorEq]
  refine ⟨fun hW => ?_, fun hW => ?_⟩
  · refine callW_eq _ _ (f16) ?_
    simp (config := {implicitDefEqProofs := false, maxSteps := 4000000}) (disch := omega) only [push_cast, c6, Nat.reduceAdd, Nat.reduceSub, Nat.reduceMul, Nat.reduceBEq, Int.reduceToNat, Int.reduceNeg, Int.reduceLE, Int.reduceLT, Int.reduceBEq, Int.reduceBNe, Int.reduceEq, Bool.not_true, Bool.not_false, eq_self, reduceCtorEq]
  have hSS : setOk a.length set := of_decide_eq_true hS
  have hUU : setOk a.length other := of_decide_eq_true hU
  refine callW_rel (ImageOk a false false false set w hv hS hW) ?_
  rintro R O ⟨nz1, rfl, rfl⟩
  simp (config := {implicitDefEqProofs := false, maxSteps := 4000000}) (disch := omega) only [push_cast, c6, Nat.reduceAdd, Nat.reduceSub, Nat.reduceMul, Nat.reduceBEq, Int.reduceToNat, Int.reduceNeg, Int.reduceLE, Int.reduceLT, Int.reduceBEq, Int.reduceBNe, Int.reduceEq, Bool.not_true, Bool.not_false, eq_self, reduceCtorEq]
  refine callW_rel (ImageOk a false false false other w hv hU hW) ?_
  rintro R O ⟨nz2, rfl, rfl⟩
  simp (config := {implicitDefEqProofs := false, maxSteps := 4000000}) (disch := omega) only [push_cast, c6, Nat.reduceAdd, Nat.reduceSub, Nat.reduceMul, Nat.reduceBEq, Int.reduceToNat, Int.reduceNeg, Int.reduceLE, Int.reduceLT, Int.reduceBEq, Int.reduceBNe, Int.reduceEq, Bool.not_true, Bool.not_false, eq_self, reduceCtorEq]
  have l1 := hSS.len
  have l2 := hUU.len
  have i1 : (imageL a set w).length ≤ a.length := fromTo_len _ _
  have i2 : (imageL a other w).length ≤ a.length := fromTo_len _ _
  refine callW_eq _ _ (f23 a.length set other false false (by omega) (by omega) (by omega)) ?_
  simp (config := {implicitDefEqProofs := false, maxSteps := 4000000}) (disch := omega) only [push_cast, c6, Nat.reduceAdd, Nat.reduceSub, Nat.reduceMul, Nat.reduceBEq, Int.reduceToNat, Int.reduceNeg, Int.reduceLE, Int.reduceLT, Int.reduceBEq, Int.reduceBNe, Int.reduceEq, Bool.not_true, Bool.not_false, eq_self, reduceCtorEq]
  refine callW_rel (ImageOk a false _ false _ w hv (setB_fromTo _ _) hW) ?_
  rintro R O ⟨nz3, rfl, rfl⟩
  simp (config := {implicitDefEqProofs := false, maxSteps := 4000000}) (disch := omega) only [push_cast, c6, Nat.reduceAdd, Nat.reduceSub, Nat.reduceMul, Nat.reduceBEq, Int.reduceToNat, Int.reduceNeg, Int.reduceLE, Int.reduceLT, Int.reduceBEq, Int.reduceBNe, Int.reduceEq, Bool.not_true, Bool.not_false, eq_self, reduceCtorEq]
  rw [image_join hV hSS hUU]
  have i3 : (joinL2 a.length (imageL a set w) (imageL a other w)).length ≤ a.length := fromTo_len _ _
  refine callW_eq _ _ (f23 a.length _ _ _ _ (by omega) (by omega) (by omega)) ?_
  simp (config := {implicitDefEqProofs := false, maxSteps := 4000000}) (disch := omega) only [push_cast, c6, Nat.reduceAdd, Nat.reduceSub, Nat.reduceMul, Nat.reduceBEq, Int.reduceToNat, Int.reduceNeg, Int.reduceLE, Int.reduceLT, Int.reduceBEq, Int.reduceBNe, Int.reduceEq, Bool.not_true, Bool.not_false, eq_self, reduceCtorEq]
  refine callW_eq _ _ (f22 _ _ _ _ (by omega)) ?_
  simp (config := {implicitDefEqProofs := false, maxSteps := 4000000}) (disch := omega) only [push_cast, c6, Nat.reduceAdd, Nat.reduceSub, Nat.reduceMul, Nat.reduceBEq, Int.reduceToNat, Int.reduceNeg, Int.reduceLE, Int.reduceLT, Int.reduceBEq, Int.reduceBNe, Int.reduceEq, Bool.not_true, Bool.not_false, eq_self, reduceCtorEq]
  refine callW_rel (PreimageOk a false false false set w hv hS hW) ?_
  rintro R O ⟨nz4, rfl, rfl⟩
  simp (config := {implicitDefEqProofs := false, maxSteps := 4000000}) (disch := omega) only [push_cast, c6, Nat.reduceAdd, Nat.reduceSub, Nat.reduceMul, Nat.reduceBEq, Int.reduceToNat, Int.reduceNeg, Int.reduceLE, Int.reduceLT, Int.reduceBEq, Int.reduceBNe, Int.reduceEq, Bool.not_true, Bool.not_false, eq_self, reduceCtorEq]
  refine callW_eq _ _ (f24 a.length set false (by omega) (by omega)) ?_
  simp (config := {implicitDefEqProofs := false, maxSteps := 4000000}) (disch := omega) only [push_cast, c6, Nat.reduceAdd, Nat.reduceSub, Nat.reduceMul, Nat.reduceBEq, Int.reduceToNat, Int.reduceNeg, Int.reduceLE, Int.reduceLT, Int.reduceBEq, Int.reduceBNe, Int.reduceEq, Bool.not_true, Bool.not_false, eq_self, reduceCtorEq]
  refine callW_rel (PreimageOk a false _ false _ w hv (setB_fromTo _ _) hW) ?_
  rintro R O ⟨nz5, rfl, rfl⟩
  simp (config := {implicitDefEqProofs := false, maxSteps := 4000000}) (disch := omega) only [push_cast, c6, Nat.reduceAdd, Nat.reduceSub, Nat.reduceMul, Nat.reduceBEq, Int.reduceToNat, Int.reduceNeg, Int.reduceLE, Int.reduceLT, Int.reduceBEq, Int.reduceBNe, Int.reduceEq, Bool.not_true, Bool.not_false, eq_self, reduceCtorEq]
  rw [pre_rest hV (wordB_iff.1 hW).2]
  have i4 : (preL a (fun x => decide (x ∈ set)) w).length ≤ a.length := fromTo_len _ _
  have i5 : (restL a.length (preL a (fun x => decide (x ∈ set)) w)).length ≤ a.length := fromTo_len _ _
  refine callW_eq _ _ (f24 a.length _ _ (by omega) (by omega)) ?_
  simp (config := {implicitDefEqProofs := false, maxSteps := 4000000}) (disch := omega) only [push_cast, c6, Nat.reduceAdd, Nat.reduceSub, Nat.reduceMul, Nat.reduceBEq, Int.reduceToNat, Int.reduceNeg, Int.reduceLE, Int.reduceLT, Int.reduceBEq, Int.reduceBNe, Int.reduceEq, Bool.not_true, Bool.not_false, eq_self, reduceCtorEq]
  refine callW_eq _ _ (f22 _ _ _ _ (by omega)) ?_
  simp (config := {implicitDefEqProofs := false, maxSteps := 4000000}) (disch := omega) only [push_cast, c6, Nat.reduceAdd, Nat.reduceSub, Nat.reduceMul, Nat.reduceBEq, Int.reduceToNat, Int.reduceNeg, Int.reduceLE, Int.reduceLT, Int.reduceBEq, Int.reduceBNe, Int.reduceEq, Bool.not_true, Bool.not_false, eq_self, reduceCtorEq]
  refine awp_upd (tyP_ok _) c6 2000 [1, 3, 4, 8, 9, 16, 18] (a.length) (fun _ => True) (fun i => [(18, .int .i64 i)]) (fun i => []) (by kernel_rfl) rfl ?_ ?_
  · trivial
  intro i hi _
  simp (config := {implicitDefEqProofs := false, maxSteps := 4000000}) (disch := omega) only [push_cast, c6, Nat.reduceAdd, Nat.reduceSub, Nat.reduceMul, Nat.reduceBEq, Int.reduceToNat, Int.reduceNeg, Int.reduceLE, Int.reduceLT, Int.reduceBEq, Int.reduceBNe, Int.reduceEq, Bool.not_true, Bool.not_false, eq_self, reduceCtorEq]
  refine ⟨fun hlt => ?_, fun hge => ?_⟩
  · refine callW_eq _ _ (RunOk a false false i w hv (by omega) hW) ?_
    simp (config := {implicitDefEqProofs := false, maxSteps := 4000000}) (disch := omega) only [push_cast, c6, Nat.reduceAdd, Nat.reduceSub, Nat.reduceMul, Nat.reduceBEq, Int.reduceToNat, Int.reduceNeg, Int.reduceLE, Int.reduceLT, Int.reduceBEq, Int.reduceBNe, Int.reduceEq, Bool.not_true, Bool.not_false, eq_self, reduceCtorEq]
    refine callW_eq _ _ (f25 _ _ i (by omega)) ?_
    simp (config := {implicitDefEqProofs := false, maxSteps := 4000000}) (disch := omega) only [push_cast, c6, Nat.reduceAdd, Nat.reduceSub, Nat.reduceMul, Nat.reduceBEq, Int.reduceToNat, Int.reduceNeg, Int.reduceLE, Int.reduceLT, Int.reduceBEq, Int.reduceBNe, Int.reduceEq, Bool.not_true, Bool.not_false, eq_self, reduceCtorEq]
    refine callW_eq _ _ (f25 set _ _ (by omega)) ?_
    simp (config := {implicitDefEqProofs := false, maxSteps := 4000000}) (disch := omega) only [push_cast, c6, Nat.reduceAdd, Nat.reduceSub, Nat.reduceMul, Nat.reduceBEq, Int.reduceToNat, Int.reduceNeg, Int.reduceLE, Int.reduceLT, Int.reduceBEq, Int.reduceBNe, Int.reduceEq, Bool.not_true, Bool.not_false, eq_self, reduceCtorEq]
    have e : (i : Int) ∈ preL a (fun x => decide (x ∈ set)) w ↔ leadG a i w ∈ set := by
      rw [preL, mem_fromTo, decide_eq_true_eq]
      exact ⟨fun h => h.2, fun h => ⟨by omega, h⟩⟩
    exact ⟨fun h => h (decide_eq_decide.2 e), fun _ => hlt⟩
  · refine callW_eq _ _ (f16) ?_
    simp (config := {implicitDefEqProofs := false, maxSteps := 4000000}) (disch := omega) only [push_cast, c6, Nat.reduceAdd, Nat.reduceSub, Nat.reduceMul, Nat.reduceBEq, Int.reduceToNat, Int.reduceNeg, Int.reduceLE, Int.reduceLT, Int.reduceBEq, Int.reduceBNe, Int.reduceEq, Bool.not_true, Bool.not_false, eq_self, reduceCtorEq]
theorem lawAutoUnions (a : List (List Int)) (set other w : List Int) (hl : a.length ≤ 4611686018427387904) (hl2 : ∀ r ∈ a, r.length ≤ 4611686018427387904) (hsl : set.length ≤ 4611686018427387904) (hul : other.length ≤ 17592186044416) (hvl : w.length ≤ 17592186044416) :
    ACall Tryz.prog 6 [.agg [.pay (.rows a) false], .pay (.ints .i64 set) false, .pay (.ints .i64 other) false, .pay (.ints .i64 w) false] (fun r objs => r = .bool true ∧ objs = []) := f6 a set other w hl hl2 hsl hul hvl
end Go.AM
end

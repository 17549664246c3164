/-
  Contracts of AutoParts; conditions in each statement.
-/
import Derived.Test.YtnfflhaehdehaaaGreatDoorS2
set_option linter.unusedVariables false
set_option linter.unusedSimpArgs false
set_option linter.unusedSectionVars false

/-! text Ua8 -/
section
namespace Go.AM
open Go Go.Proofs
theorem RunOk (a : List (List Int)) (z z' : Bool) (s : Int) (word : List Int) (hv : vldB a = true) (hs : 0 ≤ s ∧ s < a.length) (hw : wordB (a.getD 0 []).length word = true) :
    ACall Tryz.prog 10 [.agg [.pay (.rows a) z], .int .i64 s, .pay (.ints .i64 word) z'] (fun r objs => r = .tup [.int .i64 (leadG a s word), .int .i64 0] ∧ objs = []) := by
  have hV := vldB_iff.1 hv
  have hn := hV.n2
  have hk := hV.k2
  have hwl := (wordB_iff.1 hw).1
  refine (f10 a z z' s word (by omega) (fun r hr => by have := (hV.row r hr).1; omega) (by omega)).mono ?_
  rintro r objs ⟨t, e, h, rfl, rfl⟩
  obtain ⟨rfl, rfl⟩ := h.f3 hv hs hw
  exact ⟨rfl, rfl⟩
theorem ImageOk (a : List (List Int)) (z z' z'' : Bool) (set word : List Int) (hv : vldB a = true) (hs : setB a.length set = true) (hw : wordB (a.getD 0 []).length word = true) :
    ACall Tryz.prog 17 [.agg [.pay (.rows a) z], .pay (.ints .i64 set) z', .pay (.ints .i64 word) z''] (fun r objs => ∃ nz, r = .tup [.pay (.ints .i64 (imageL a set word)) nz, .int .i64 0] ∧ objs = []) := by
  have hV := vldB_iff.1 hv
  have hn := hV.n2
  have hk := hV.k2
  have hwl := (wordB_iff.1 hw).1
  have hsl := (of_decide_eq_true hs : setOk a.length set).len
  refine (f17 a z z' z'' set word (by omega) (fun r hr => by have := (hV.row r hr).1; omega) (by omega) (by omega)).mono ?_
  rintro r objs ⟨t, e, nz, h, rfl, rfl⟩
  obtain ⟨rfl, rfl⟩ := h.f3 hv hs hw
  exact ⟨nz, rfl, rfl⟩
theorem PreimageOk (a : List (List Int)) (z z' z'' : Bool) (set word : List Int) (hv : vldB a = true) (hs : setB a.length set = true) (hw : wordB (a.getD 0 []).length word = true) :
    ACall Tryz.prog 18 [.agg [.pay (.rows a) z], .pay (.ints .i64 set) z', .pay (.ints .i64 word) z''] (fun r objs => ∃ nz, r = .tup [.pay (.ints .i64 (preL a (fun x => decide (x ∈ set)) word)) nz, .int .i64 0] ∧ objs = []) := by
  have hV := vldB_iff.1 hv
  have hn := hV.n2
  have hk := hV.k2
  have hwl := (wordB_iff.1 hw).1
  have hsl := (of_decide_eq_true hs : setOk a.length set).len
  refine (f18 a z z' z'' set word (by omega) (fun r hr => by have := (hV.row r hr).1; omega) (by omega) (by omega)).mono ?_
  rintro r objs ⟨t, e, nz, h, rfl, rfl⟩
  obtain ⟨rfl, rfl⟩ := h.f3 hv hs hw
  exact ⟨nz, rfl, rfl⟩
theorem setB_fromTo (n : Nat) (p : Int → Bool) : setB n (fromTo n p) = true := decide_eq_true ⟨fun x hx => (mem_fromTo.1 hx).1, fromTo_lt _ _⟩
theorem leadG_app (a : List (List Int)) : ∀ (u : List Int) (s : Int) (v : List Int), leadG a s (u ++ v) = leadG a (leadG a s u) v
  | [], _, _ => rfl
  | x :: u, s, v => leadG_app a u _ v
theorem image_app {a : List (List Int)} {k : Nat} {set u v : List Int} (hv : Vld a k) (hs : setOk a.length set) (hu : ∀ x ∈ u, 0 ≤ x ∧ x < k) : imageL a (imageL a set u) v = imageL a set (u ++ v) := by
  refine fromTo_congr fun t _ _ => ?_
  rw [Bool.eq_iff_iff]
  simp only [List.any_eq_true, beq_iff_eq, imageL, mem_fromTo]
  constructor
  · rintro ⟨x, ⟨_, s, h1, h2⟩, h3⟩
    exact ⟨s, h1, by rw [leadG_app, h2, h3]⟩
  · rintro ⟨s, h1, h2⟩
    have := hv.lead u (hs.1 s h1).1 (hs.1 s h1).2 hu
    exact ⟨leadG a s u, ⟨this, s, h1, rfl⟩, by rw [← leadG_app, h2]⟩
theorem pre_app {a : List (List Int)} {k : Nat} {set u v : List Int} (hv : Vld a k) (hu : ∀ x ∈ u, 0 ≤ x ∧ x < k) : preL a (fun x => decide (x ∈ preL a (fun y => decide (y ∈ set)) v)) u = preL a (fun x => decide (x ∈ set)) (u ++ v) := by
  refine fromTo_congr fun t h0 h1 => ?_
  have := hv.lead u (s := t) h0 (by omega) hu
  rw [Bool.eq_iff_iff]
  simp only [decide_eq_true_eq, preL, mem_fromTo, leadG_app]
  exact ⟨fun h => h.2, fun h => ⟨this, h⟩⟩
/- mizmaze/mizmazelaw01.AutoParts -/
def c5 : VCfg := ⟨⟨[], [], [], [0, 1, 2, 3, 4, 5, 10, 11, 12, 13, 14, 15, 16, 17, 18, 19, 20, 55, 97, 134]⟩, [], [], []⟩
set_option maxHeartbeats 8000000 in
theorem f5 (a : List (List Int)) (s : Int) (set u v : List Int) (hl : a.length ≤ 4611686018427387904) (hl2 : ∀ r ∈ a, r.length ≤ 4611686018427387904) (hsl : set.length ≤ 4611686018427387904) (hul : u.length ≤ 17592186044416) (hvl : v.length ≤ 17592186044416) :
    ACall Tryz.prog 5 [.agg [.pay (.rows a) false], .int .i64 s, .pay (.ints .i64 set) false, .pay (.ints .i64 u) false, .pay (.ints .i64 v) false] (fun r objs => r = .bool true ∧ objs = []) := by
  refine acall_intro (tyP_ok _) c5 2000 [.tmp 10] Tryz.func5 rfl (by rfl) rfl (by kernel_rfl) ?_
  unfold Tryz.f5
  simp (config := {implicitDefEqProofs := false, maxSteps := 4000000}) (disch := omega) only [push_cast, c5, Nat.reduceAdd, Nat.reduceSub, Nat.reduceMul, Nat.reduceBEq, Int.reduceToNat, Int.reduceNeg, Int.reduceLE, Int.reduceLT, Int.reduceBEq, Int.reduceBNe, Int.reduceEq, Bool.not_true, Bool.not_false, eq_self, reduceCtorEq]
  refine callW_eq _ _ (f12 a false hl hl2) ?_
  simp (config := {implicitDefEqProofs := false, maxSteps := 4000000}) (disch := omega) only [push_cast, c5, Nat.reduceAdd, Nat.reduceSub, Nat.reduceMul, Nat.reduceBEq, Int.reduceToNat, Int.reduceNeg, Int.reduceLE, Int.reduceLT, Int.reduceBEq, Int.reduceBNe, Int.reduceEq, Bool.not_true, Bool.not_false, eq_self, reduceCtorEq]
  refine ⟨fun hv => ?_, fun hv => ?_⟩
  · refine callW_eq _ _ (f16) ?_
    simp (config := {implicitDefEqProofs := false, maxSteps := 4000000}) (disch := omega) only [push_cast, c5, Nat.reduceAdd, Nat.reduceSub, Nat.reduceMul, Nat.reduceBEq, Int.reduceToNat, Int.reduceNeg, Int.reduceLE, Int.reduceLT, Int.reduceBEq, Int.reduceBNe, Int.reduceEq, Bool.not_true, Bool.not_false, eq_self, reduceCtorEq]
  have hV := vldB_iff.1 hv
  have hn := hV.n2
  have hn0 := hV.n1
  refine callW_eq _ _ (f13 a false s) ?_
  simp (config := {implicitDefEqProofs := false, maxSteps := 4000000}) (disch := omega) only [push_cast, c5, Nat.reduceAdd, Nat.reduceSub, Nat.reduceMul, Nat.reduceBEq, Int.reduceToNat, Int.reduceNeg, Int.reduceLE, Int.reduceLT, Int.reduceBEq, Int.reduceBNe, Int.reduceEq, Bool.not_true, Bool.not_false, eq_self, reduceCtorEq]
  refine ⟨fun hs => ?_, fun hs => ?_⟩
  · refine callW_eq _ _ (f16) ?_
    simp (config := {implicitDefEqProofs := false, maxSteps := 4000000}) (disch := omega) only [push_cast, c5, Nat.reduceAdd, Nat.reduceSub, Nat.reduceMul, Nat.reduceBEq, Int.reduceToNat, Int.reduceNeg, Int.reduceLE, Int.reduceLT, Int.reduceBEq, Int.reduceBNe, Int.reduceEq, Bool.not_true, Bool.not_false, eq_self, reduceCtorEq]
  refine callW_eq _ _ (f19 a false false set hl hsl) ?_
  simp (config := {implicitDefEqProofs := false, maxSteps := 4000000}) (disch := omega) only [push_cast, c5, Nat.reduceAdd, Nat.reduceSub, Nat.reduceMul, Nat.reduceBEq, Int.reduceToNat, Int.reduceNeg, Int.reduceLE, Int.reduceLT, Int.reduceBEq, Int.reduceBNe, Int.reduceEq, Bool.not_true, Bool.not_false, eq_self, reduceCtorEq]
  refine ⟨fun hS => ?_, fun hS => ?_⟩
  · refine callW_eq _ _ (f16) ?_
    simp (config := {implicitDefEqProofs := false, maxSteps := 4000000}) (disch := omega) only [push_cast, c5, Nat.reduceAdd, Nat.reduceSub, Nat.reduceMul, Nat.reduceBEq, Int.reduceToNat, Int.reduceNeg, Int.reduceLE, Int.reduceLT, Int.reduceBEq, Int.reduceBNe, Int.reduceEq, Bool.not_true, Bool.not_false, eq_self, reduceCtorEq]
  refine callW_eq _ _ (f14 a false false u (by omega) (by omega)) ?_
  simp (config := {implicitDefEqProofs := false, maxSteps := 4000000}) (disch := omega) only [push_cast, c5, Nat.reduceAdd, Nat.reduceSub, Nat.reduceMul, Nat.reduceBEq, Int.reduceToNat, Int.reduceNeg, Int.reduceLE, Int.reduceLT, Int.reduceBEq, Int.reduceBNe, Int.reduceEq, Bool.not_true, Bool.not_false, eq_self, reduceCtorEq]
  refine ⟨fun hU => ?_, fun hU => ?_⟩
  · refine callW_eq _ _ (f16) ?_
    simp (config := {implicitDefEqProofs := false, maxSteps := 4000000}) (disch := omega) only [push_cast, c5, Nat.reduceAdd, Nat.reduceSub, Nat.reduceMul, Nat.reduceBEq, Int.reduceToNat, Int.reduceNeg, Int.reduceLE, Int.reduceLT, Int.reduceBEq, Int.reduceBNe, Int.reduceEq, Bool.not_true, Bool.not_false, eq_self, reduceCtorEq]
  refine callW_eq _ _ (f14 a false false v (by omega) (by omega)) ?_
  simp (config := {implicitDefEqProofs := false, maxSteps := 4000000}) (disch := omega) only [push_cast, c5, Nat.reduceAdd, Nat.reduceSub, Nat.reduceMul, Nat.reduceBEq, Int.reduceToNat, Int.reduceNeg, Int.reduceLE, Int.reduceLT, Int.reduceBEq, Int.reduceBNe, Int.reduceEq, Bool.not_true, Bool.not_false, eq_self, reduceCtorEq]
  refine ⟨fun hW => ?_, fun hW => ?_⟩
  · refine callW_eq _ _ (f16) ?_
    simp (config := {implicitDefEqProofs := false, maxSteps := 4000000}) (disch := omega) only [push_cast, c5, Nat.reduceAdd, Nat.reduceSub, Nat.reduceMul, Nat.reduceBEq, Int.reduceToNat, Int.reduceNeg, Int.reduceLE, Int.reduceLT, Int.reduceBEq, Int.reduceBNe, Int.reduceEq, Bool.not_true, Bool.not_false, eq_self, reduceCtorEq]
  have hu2 := (wordB_iff.1 hU).1
  have hv2 := (wordB_iff.1 hW).1
  refine ⟨fun hb => ?_, fun hb => ?_⟩
  · refine callW_eq _ _ (f16) ?_
    simp (config := {implicitDefEqProofs := false, maxSteps := 4000000}) (disch := omega) only [push_cast, c5, Nat.reduceAdd, Nat.reduceSub, Nat.reduceMul, Nat.reduceBEq, Int.reduceToNat, Int.reduceNeg, Int.reduceLE, Int.reduceLT, Int.reduceBEq, Int.reduceBNe, Int.reduceEq, Bool.not_true, Bool.not_false, eq_self, reduceCtorEq]
  refine ⟨by omega, by omega, ?_⟩
  have hUV : wordB (a.getD 0 []).length (u ++ v) = true := wordB_iff.2 ⟨by simp; omega, fun x hx => by
    rcases List.mem_append.1 hx with hx | hx
    · exact (wordB_iff.1 hU).2 x hx
    · exact (wordB_iff.1 hW).2 x hx⟩
  have hSS : setOk a.length set := of_decide_eq_true hS
  refine callW_eq _ _ (RunOk a false false s u hv hs hU) ?_
  simp (config := {implicitDefEqProofs := false, maxSteps := 4000000}) (disch := omega) only [push_cast, c5, Nat.reduceAdd, Nat.reduceSub, Nat.reduceMul, Nat.reduceBEq, Int.reduceToNat, Int.reduceNeg, Int.reduceLE, Int.reduceLT, Int.reduceBEq, Int.reduceBNe, Int.reduceEq, Bool.not_true, Bool.not_false, eq_self, reduceCtorEq]
  refine callW_eq _ _ (RunOk a false false _ v hv (hV.lead u hs.1 hs.2 (wordB_iff.1 hU).2) hW) ?_
  simp (config := {implicitDefEqProofs := false, maxSteps := 4000000}) (disch := omega) only [push_cast, c5, Nat.reduceAdd, Nat.reduceSub, Nat.reduceMul, Nat.reduceBEq, Int.reduceToNat, Int.reduceNeg, Int.reduceLE, Int.reduceLT, Int.reduceBEq, Int.reduceBNe, Int.reduceEq, Bool.not_true, Bool.not_false, eq_self, reduceCtorEq]
  refine callW_eq _ _ (RunOk a false _ s (u ++ v) hv hs hUV) ?_
  simp (config := {implicitDefEqProofs := false, maxSteps := 4000000}) (disch := omega) only [push_cast, c5, Nat.reduceAdd, Nat.reduceSub, Nat.reduceMul, Nat.reduceBEq, Int.reduceToNat, Int.reduceNeg, Int.reduceLE, Int.reduceLT, Int.reduceBEq, Int.reduceBNe, Int.reduceEq, Bool.not_true, Bool.not_false, eq_self, reduceCtorEq]
  rw [← leadG_app]
  refine ⟨fun h => h rfl, fun _ => ?_⟩
  refine callW_rel (ImageOk a false false false set u hv hS hU) ?_
  rintro R O ⟨nz1, rfl, rfl⟩
  simp (config := {implicitDefEqProofs := false, maxSteps := 4000000}) (disch := omega) only [push_cast, c5, Nat.reduceAdd, Nat.reduceSub, Nat.reduceMul, Nat.reduceBEq, Int.reduceToNat, Int.reduceNeg, Int.reduceLE, Int.reduceLT, Int.reduceBEq, Int.reduceBNe, Int.reduceEq, Bool.not_true, Bool.not_false, eq_self, reduceCtorEq]
  refine callW_rel (ImageOk a false _ false _ v hv (setB_fromTo _ _) hW) ?_
  rintro R O ⟨nz2, rfl, rfl⟩
  simp (config := {implicitDefEqProofs := false, maxSteps := 4000000}) (disch := omega) only [push_cast, c5, Nat.reduceAdd, Nat.reduceSub, Nat.reduceMul, Nat.reduceBEq, Int.reduceToNat, Int.reduceNeg, Int.reduceLE, Int.reduceLT, Int.reduceBEq, Int.reduceBNe, Int.reduceEq, Bool.not_true, Bool.not_false, eq_self, reduceCtorEq]
  refine callW_rel (ImageOk a false false _ set (u ++ v) hv hS hUV) ?_
  rintro R O ⟨nz3, rfl, rfl⟩
  simp (config := {implicitDefEqProofs := false, maxSteps := 4000000}) (disch := omega) only [push_cast, c5, Nat.reduceAdd, Nat.reduceSub, Nat.reduceMul, Nat.reduceBEq, Int.reduceToNat, Int.reduceNeg, Int.reduceLE, Int.reduceLT, Int.reduceBEq, Int.reduceBNe, Int.reduceEq, Bool.not_true, Bool.not_false, eq_self, reduceCtorEq]
  rw [image_app hV hSS (wordB_iff.1 hU).2]
  have hi : (imageL a set (u ++ v)).length ≤ a.length := fromTo_len _ _
  refine callW_eq _ _ (f22 _ _ _ _ (by omega)) ?_
  simp (config := {implicitDefEqProofs := false, maxSteps := 4000000}) (disch := omega) only [push_cast, c5, Nat.reduceAdd, Nat.reduceSub, Nat.reduceMul, Nat.reduceBEq, Int.reduceToNat, Int.reduceNeg, Int.reduceLE, Int.reduceLT, Int.reduceBEq, Int.reduceBNe, Int.reduceEq, Bool.not_true, Bool.not_false, eq_self, reduceCtorEq]
  refine callW_rel (PreimageOk a false false false set v hv hS hW) ?_
  rintro R O ⟨nz4, rfl, rfl⟩
  simp (config := {implicitDefEqProofs := false, maxSteps := 4000000}) (disch := omega) only [push_cast, c5, Nat.reduceAdd, Nat.reduceSub, Nat.reduceMul, Nat.reduceBEq, Int.reduceToNat, Int.reduceNeg, Int.reduceLE, Int.reduceLT, Int.reduceBEq, Int.reduceBNe, Int.reduceEq, Bool.not_true, Bool.not_false, eq_self, reduceCtorEq]
  refine callW_rel (PreimageOk a false _ false _ u hv (setB_fromTo _ _) hU) ?_
  rintro R O ⟨nz5, rfl, rfl⟩
  simp (config := {implicitDefEqProofs := false, maxSteps := 4000000}) (disch := omega) only [push_cast, c5, Nat.reduceAdd, Nat.reduceSub, Nat.reduceMul, Nat.reduceBEq, Int.reduceToNat, Int.reduceNeg, Int.reduceLE, Int.reduceLT, Int.reduceBEq, Int.reduceBNe, Int.reduceEq, Bool.not_true, Bool.not_false, eq_self, reduceCtorEq]
  refine callW_rel (PreimageOk a false false _ set (u ++ v) hv hS hUV) ?_
  rintro R O ⟨nz6, rfl, rfl⟩
  simp (config := {implicitDefEqProofs := false, maxSteps := 4000000}) (disch := omega) only [push_cast, c5, Nat.reduceAdd, Nat.reduceSub, Nat.reduceMul, Nat.reduceBEq, Int.reduceToNat, Int.reduceNeg, Int.reduceLE, Int.reduceLT, Int.reduceBEq, Int.reduceBNe, Int.reduceEq, Bool.not_true, Bool.not_false, eq_self, reduceCtorEq]
  rw [pre_app hV (wordB_iff.1 hU).2]
  have hi2 : (preL a (fun x => decide (x ∈ set)) (u ++ v)).length ≤ a.length := fromTo_len _ _
  refine callW_eq _ _ (f22 _ _ _ _ (by omega)) ?_
  simp (config := {implicitDefEqProofs := false, maxSteps := 4000000}) (disch := omega) only [push_cast, c5, Nat.reduceAdd, Nat.reduceSub, Nat.reduceMul, Nat.reduceBEq, Int.reduceToNat, Int.reduceNeg, Int.reduceLE, Int.reduceLT, Int.reduceBEq, Int.reduceBNe, Int.reduceEq, Bool.not_true, Bool.not_false, eq_self, reduceCtorEq]
  refine callW_eq _ _ (f16) ?_
  simp (config := {implicitDefEqProofs := false, maxSteps := 4000000}) (disch := omega) only [push_cast, c5, Nat.reduceAdd, Nat.reduceSub, Nat.reduceMul, Nat.reduceBEq, Int.reduceToNat, Int.reduceNeg, Int.reduceLE, Int.reduceLT, Int.reduceBEq, Int.reduceBNe, Int.reduceEq, Bool.not_true, Bool.not_false, eq_self, reduceCtorEq]
theorem lawAutoParts (a : List (List Int)) (s : Int) (set u v : List Int) (hl : a.length ≤ 4611686018427387904) (hl2 : ∀ r ∈ a, r.length ≤ 4611686018427387904) (hsl : set.length ≤ 4611686018427387904) (hul : u.length ≤ 17592186044416) (hvl : v.length ≤ 17592186044416) :
    ACall Tryz.prog 5 [.agg [.pay (.rows a) false], .int .i64 s, .pay (.ints .i64 set) false, .pay (.ints .i64 u) false, .pay (.ints .i64 v) false] (fun r objs => r = .bool true ∧ objs = []) := f5 a s set u v hl hl2 hsl hul hvl
end Go.AM
end

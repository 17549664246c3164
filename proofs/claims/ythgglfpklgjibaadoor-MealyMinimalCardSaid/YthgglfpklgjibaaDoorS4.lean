/-
  Contracts of ClassesOf, Classes and Minimal; conditions in each statement.
-/
import Derived.Test.YthgglfpklgjibaaDoorS3
import Derived.Test.YthgglfpklgjibaaDoorP2
import Derived.Test.YthgglfpklgjibaaDoorF5
set_option linter.unusedVariables false
set_option linter.unusedSimpArgs false
set_option linter.unusedSectionVars false

/-! text Ud8 -/
section
namespace Go.AM
open Go Go.Proofs
def rowS (N O : List (List Int)) (k : Nat) (c : List Int) (s : Nat) : List Int := rowK N O c s k
/- mizmaze/mealy.refined -/
def c73 : VCfg := ⟨⟨[], [9], [7], [0, 1, 2, 4, 5, 6, 7, 8, 9, 10, 11, 13, 17, 18, 19, 30, 31, 32, 33, 65]⟩, [(10, (.op 0 .loose (.op 1 .loose (.op 2 .loose (.op 3 .strict (.op 4 .strict (.op 5 .strict (.op 6 .loose (.op 7 .loose (.op 8 .loose (.op 9 .loose (.op 10 .strict (.op 11 .strict (.op 12 .strict (.op 13 .strict (.op 14 .strict (.op 15 .strict (.op 16 .strict (.op 17 .strict (.op 18 .loose (.op 19 .eff (.op 20 .loose (.op 21 .eff .nil)))))))))))))))))))))))], [], []⟩
def O73 (out : List Int) (m : List (List Int × Int)) : List AObj := [.mapI .arr m, .arr (.ints .i64 out) ⟨3, true⟩]
set_option maxHeartbeats 4000000 in
set_option maxRecDepth 100000 in
theorem f73 (N O : List (List Int)) (z z' y : Bool) (c : List Int) (k : Nat) (hV : VM N O k) (hc : c.length = N.length) :
    ACall Tryd.prog 73 [.agg [.pay (.rows (N)) (z), .pay (.rows (O)) (z')], .pay (.ints .i64 c) y] (fun r objs => r = .tup [.pay (.ints .i64 ((List.range N.length).map fun s => ((numF (keyE (rowS N O k c)) s : Nat) : Int))) true, .int .i64 (cntF (keyE (rowS N O k c)) N.length)] ∧ objs = []) := by
  suffices h : ACall Tryd.prog 73 [.agg [.pay (.rows (N)) (z), .pay (.rows (O)) (z')], .pay (.ints .i64 c) y] (fun r objs => r = .tup [.own 0, .int .i64 (cntF (keyE (rowS N O k c)) N.length)] ∧ objs = [.arr (.ints .i64 ((List.range N.length).map fun s => ((numF (keyE (rowS N O k c)) s : Nat) : Int))) ⟨3, true⟩]) by
    refine h.frz ?_
    rintro r objs ⟨rfl, rfl⟩
    exact ⟨[0], _, 1, rfl, rfl, rfl⟩
  have hn := hV.v.n2
  have hk2 := hV.v.k2
  have hol := hV.ol
  generalize hf : rowS N O k c = f
  have hfl : ∀ t, (f t).length = 13 := fun t => by rw [← hf]; exact rowA_len _ _ _ _
  refine acall_intro (tyP_ok _) c73 2000 [.tmp 4, .tmp 5] Tryd.func73 rfl (by rfl) rfl (by kernel_rfl) ?_
  unfold Tryd.f73
  simp (config := {implicitDefEqProofs := false, maxSteps := 4000000}) (disch := omega) only [push_cast, c73, Nat.reduceAdd, Nat.reduceSub, Nat.reduceMul, Nat.reduceBEq, Int.reduceToNat, Int.reduceNeg, Int.reduceLE, Int.reduceLT, Int.reduceBEq, Int.reduceBNe, Int.reduceEq, Bool.not_true, Bool.not_false, eq_self, reduceCtorEq]
  refine awp_upto (tyP_ok _) c73 2000 [1, 2, 4, 5, 6, 7, 17, 18] (N.length) (fun _ => True) (fun i => ⟨80, [(1, .pay (.ints .i64 c) y), (2, .fref [.pay (.rows N) z, .pay (.rows O) z']), (4, .pay (.ints .i64 []) true), (5, .int .i64 0), (6, .mapr 0), (7, .own 1), (17, .int .i64 N.length), (18, .int .i64 i)], O73 ((List.range i).map fun s => ((numF (keyE f) s : Nat) : Int)) (mapR f i)⟩) (by kernel_rfl) ?_ ?_ ?_
  · simp (config := {implicitDefEqProofs := false, maxSteps := 4000000}) (disch := omega) only [push_cast, c73, O73, Nat.reduceAdd, Nat.reduceSub, Nat.reduceMul, Nat.reduceBEq, Int.reduceToNat, Int.reduceNeg, Int.reduceLE, Int.reduceLT, Int.reduceBEq, Int.reduceBNe, Int.reduceEq, Bool.not_true, Bool.not_false, eq_self, reduceCtorEq]
    exact ⟨rfl, rfl⟩
  · trivial
  intro i hi _
  simp (config := {implicitDefEqProofs := false, maxSteps := 4000000}) (disch := omega) only [push_cast, c73, O73, Nat.reduceAdd, Nat.reduceSub, Nat.reduceMul, Nat.reduceBEq, Int.reduceToNat, Int.reduceNeg, Int.reduceLE, Int.reduceLT, Int.reduceBEq, Int.reduceBNe, Int.reduceEq, Bool.not_true, Bool.not_false, eq_self, reduceCtorEq]
  refine ⟨fun hlt => ?_, fun hge => ?_⟩
  · have hn1 : (N.getD i []).length = k := (hV.v.row _ (getD_mem' hlt)).1
    have ho1 : (O.getD i []).length = k := (hV.orow _ (getD_mem' (by omega))).1
    have hrow := hV.v.row _ (getD_mem' hlt)
    rw [hn1]
    refine ⟨by omega, hlt, ?_⟩
    refine awp_upto (tyP_ok _) c73 2000 [1, 2, 4, 5, 6, 7, 8, 9, 17, 18, 30, 31, 32] (k) (fun _ => True) (fun x => ⟨80, [(1, .pay (.ints .i64 c) y), (2, .fref [.pay (.rows N) z, .pay (.rows O) z']), (4, .pay (.ints .i64 []) true), (5, .int .i64 0), (6, .mapr 0), (7, .own 1), (8, .int .i64 i), (9, .ref 2 0), (17, .int .i64 N.length), (18, .int .i64 i), (30, .pay (.ints .i64 (N.getD i [])) false), (31, .int .i64 k), (32, .int .i64 x)], O73 ((List.range i).map fun s => ((numF (keyE f) s : Nat) : Int)) (mapR f i) ++ [.arr (.ints .i64 (rowK N O c i x)) ⟨133, false⟩]⟩) (by kernel_rfl) ?_ ?_ ?_
    · simp (config := {implicitDefEqProofs := false, maxSteps := 4000000}) (disch := omega) only [push_cast, c73, O73, Nat.reduceAdd, Nat.reduceSub, Nat.reduceMul, Nat.reduceBEq, Int.reduceToNat, Int.reduceNeg, Int.reduceLE, Int.reduceLT, Int.reduceBEq, Int.reduceBNe, Int.reduceEq, Bool.not_true, Bool.not_false, eq_self, reduceCtorEq]
      rfl
    · trivial
    intro x hx _
    have hrl : (rowK N O c i x).length = 13 := rowA_len _ _ _ _
    simp (config := {implicitDefEqProofs := false, maxSteps := 4000000}) (disch := omega) only [push_cast, c73, O73, hrl, Nat.reduceAdd, Nat.reduceSub, Nat.reduceMul, Nat.reduceBEq, Int.reduceToNat, Int.reduceNeg, Int.reduceLE, Int.reduceLT, Int.reduceBEq, Int.reduceBNe, Int.reduceEq, Bool.not_true, Bool.not_false, eq_self, reduceCtorEq]
    refine ⟨fun hxk => ?_, fun hxk => ?_⟩
    · have hx1 := hrow.2 _ (getD_mem (show x < (N.getD i []).length by omega))
      have e1 : (1 + 2 * (x : Int)).toNat = 1 + 2 * x := by omega
      have e2 : (2 + 2 * (x : Int)).toNat = 2 + 2 * x := by omega
      rw [e1, e2, List.length_set, hrl]
      refine ⟨by omega, ⟨hx1.1, by omega⟩, by omega, by omega, ⟨⟨by omega, by omega⟩, by omega⟩, ⟨⟨by omega, by omega⟩, by omega⟩, hxk, ?_⟩
      simp [rowK, rowA, nxG, outG]
    · have hxe : x = k := by omega
      subst hxe
      have hfi : rowK N O c i x = f i := by rw [← hf]; rfl
      have hks := mapR_keys f hfl i
      have hks1 := mapR_keys f hfl (i + 1)
      have hmp : (List.range i).map (fun s => ((numF (keyE f) s : Nat) : Int)) ++ [((numF (keyE f) i : Nat) : Int)] = (List.range (i + 1)).map (fun s => ((numF (keyE f) s : Nat) : Int)) := by simp [List.range_succ]
      rw [hfi]
      refine ⟨hks, fun hnew => ?_, fun hold => ?_⟩
      · have hF : isF (keyE f) i = true := by
          cases e : isF (keyE f) i with
          | true => rfl
          | false => rw [(mapR_old f e).1] at hnew; cases hnew
        obtain ⟨g1, g2, g3⟩ := mapR_new f hF
        rw [g2, g3]
        exact ⟨hks, hks1, by simp; omega, hlt, rfl, hmp⟩
      · have hF : isF (keyE f) i = false := by
          cases e : isF (keyE f) i with
          | false => rfl
          | true => rw [(mapR_new f e).1] at hold; cases hold
        obtain ⟨g1, g2, g3⟩ := mapR_old f hF
        rw [g2, g3]
        exact ⟨hks, by simp; omega, hlt, rfl, hmp⟩
  · rw [mapR_len, show i = N.length by omega]
    exact ⟨rfl, rfl⟩
/-- one step of the program is one step of the reference -/
theorem refined_is {N O : List (List Int)} {k : Nat} (hV : VM N O k) (i : Nat) :
    ((List.range N.length).map fun s => ((numF (keyE (rowS N O k (clsI N O k i))) s : Nat) : Int)) = clsI N O k (i + 1) ∧ cntF (keyE (rowS N O k (clsI N O k i))) N.length = cntI N O k (i + 1) := by
  have hE : ∀ s t, s < N.length → t < N.length → keyE (rowS N O k (clsI N O k i)) s t = keyE (kF N O k (clsI N O k i)) s t := fun s t hs ht => by
    rw [← kP_E hV i s t hs ht]
    simp only [keyE, decide_eq_decide]
    exact rowK_eq hV.v.k2
  refine ⟨?_, ?_⟩
  · show _ = nextC N O k (clsI N O k i)
    unfold nextC
    refine List.map_congr_left fun s hs => ?_
    rw [numF_congr hE (List.mem_range.1 hs)]
  · rw [cntI_succ, cntF_congr hE _ (Nat.le_refl _)]
/- mizmaze/mealy.ClassesOf -/
def c48 : VCfg := ⟨⟨[], [], [], [0, 1, 2, 3, 4, 5, 6, 7, 20]⟩, [], [], []⟩
set_option maxRecDepth 100000 in
theorem f48 (N O : List (List Int)) (z z' : Bool) (k : Nat) (hV : VM N O k) :
    ACall Tryd.prog 48 [.agg [.pay (.rows (N)) (z), .pay (.rows (O)) (z')]] (fun r objs => r = .tup [.pay (.ints .i64 (clsT N O k)) true, .int .i64 (cntT N O k)] ∧ objs = []) := by
  have hn := hV.v.n2
  have hn1 := hV.v.n1
  refine acall_intro (tyP_ok _) c48 2000 [.tmp 2, .tmp 3] Tryd.func48 rfl (by rfl) rfl (by kernel_rfl) ?_
  unfold Tryd.f48
  simp (config := {implicitDefEqProofs := false, maxSteps := 4000000}) (disch := omega) only [push_cast, c48, Nat.reduceAdd, Nat.reduceSub, Nat.reduceMul, Nat.reduceBEq, Int.reduceToNat, Int.reduceNeg, Int.reduceLE, Int.reduceLT, Int.reduceBEq, Int.reduceBNe, Int.reduceEq, Bool.not_true, Bool.not_false, eq_self, reduceCtorEq]
  refine ⟨by omega, ?_⟩
  refine awp_freeze [0] ?_
  refine awp_loop (tyP_ok _) c48 2000 [1, 2, 3, 4, 5] (fun n g st => ∃ (i : Nat) (nz : Bool), g = (false, 0) ∧ (∀ j, j < i → cntI N O k (j + 1) ≠ cntI N O k j) ∧ n = N.length - i ∧ st = ⟨25, [(1, .fref [.pay (.rows N) z, .pay (.rows O) z']), (2, .pay (.ints .i64 []) true), (3, .int .i64 0), (4, .pay (.ints .i64 (clsI N O k i)) nz), (5, .int .i64 (cntI N O k i))], []⟩) N.length (by kernel_rfl) ?_ ?_
  · refine ⟨0, false, rfl, fun j hj => by omega, rfl, ?_⟩
    rw [cntI_zero hn1]
    simp (config := {implicitDefEqProofs := false, maxSteps := 4000000}) (disch := omega) only [push_cast, c48, Nat.reduceAdd, Nat.reduceSub, Nat.reduceMul, Nat.reduceBEq, Int.reduceToNat, Int.reduceNeg, Int.reduceLE, Int.reduceLT, Int.reduceBEq, Int.reduceBNe, Int.reduceEq, Bool.not_true, Bool.not_false, eq_self, reduceCtorEq]
    rfl
  rintro n g st ⟨i, nz, rfl, hi, rfl, rfl⟩
  simp (config := {implicitDefEqProofs := false, maxSteps := 4000000}) (disch := omega) only [push_cast, c48, Nat.reduceAdd, Nat.reduceSub, Nat.reduceMul, Nat.reduceBEq, Int.reduceToNat, Int.reduceNeg, Int.reduceLE, Int.reduceLT, Int.reduceBEq, Int.reduceBNe, Int.reduceEq, Bool.not_true, Bool.not_false, eq_self, reduceCtorEq]
  have h1 := f73 N O z z' nz (clsI N O k i) k hV (clsI_len i)
  rw [(refined_is hV i).1, (refined_is hV i).2] at h1
  refine callW_eq _ _ h1 ?_
  simp (config := {implicitDefEqProofs := false, maxSteps := 4000000}) (disch := omega) only [push_cast, c48, Nat.reduceAdd, Nat.reduceSub, Nat.reduceMul, Nat.reduceBEq, Int.reduceToNat, Int.reduceNeg, Int.reduceLE, Int.reduceLT, Int.reduceBEq, Int.reduceBNe, Int.reduceEq, Bool.not_true, Bool.not_false, eq_self, reduceCtorEq]
  refine ⟨fun he => ?_, fun hne => ?_⟩
  · obtain ⟨g1, g2⟩ := clsI_done hV hi (by omega)
    exact ⟨g1, by rw [g2]; rfl⟩
  · have h2 : ∀ j, j < i + 1 → cntI N O k (j + 1) ≠ cntI N O k j := upto_succ hi (by omega)
    have h3 := cntI_grow hV (i + 1) h2
    have h4 := cntI_le (N := N) (O := O) (k := k) (i + 1)
    exact ⟨N.length - (i + 1), by omega, i + 1, true, h2, rfl, ⟨rfl, rfl⟩, rfl⟩
end Go.AM
end

/-! text Ud9 -/
section
namespace Go.AM
open Go Go.Proofs
/-- what Classes answers -/
def ClassR (N O : List (List Int)) (c : List Int) (e : Int) : Prop := (vmB N O = false ∧ e = 1 ∧ c = []) ∨ (vmB N O = true ∧ e = 0 ∧ c = clsT N O (N.getD 0 []).length)
/- mizmaze/mealy.Classes -/
def c25 : VCfg := ⟨⟨[], [], [], [0, 1, 2, 3, 4, 8]⟩, [], [], []⟩
set_option maxRecDepth 100000 in
theorem f25 (N O : List (List Int)) (z z' : Bool) (hl : N.length ≤ 4611686018427387904) (hl2 : ∀ r ∈ N, r.length ≤ 4611686018427387904) (ho : O.length ≤ 4611686018427387904) (ho2 : ∀ r ∈ O, r.length ≤ 4611686018427387904) :
    ACall Tryd.prog 25 [.agg [.pay (.rows (N)) (z), .pay (.rows (O)) (z')]] (fun r objs => ∃ c e, ClassR N O c e ∧ r = .tup [.pay (.ints .i64 c) true, .int .i64 e] ∧ objs = []) := by
  refine acall_intro (tyP_ok _) c25 2000 [.tmp 2, .tmp 3] Tryd.func25 rfl (by rfl) rfl (by kernel_rfl) ?_
  unfold Tryd.f25
  simp (config := {implicitDefEqProofs := false, maxSteps := 4000000}) (disch := omega) only [push_cast, c25, Nat.reduceAdd, Nat.reduceSub, Nat.reduceMul, Nat.reduceBEq, Int.reduceToNat, Int.reduceNeg, Int.reduceLE, Int.reduceLT, Int.reduceBEq, Int.reduceBNe, Int.reduceEq, Bool.not_true, Bool.not_false, eq_self, reduceCtorEq]
  refine callW_eq _ _ (f35 N O z z' hl hl2 ho ho2) ?_
  simp (config := {implicitDefEqProofs := false, maxSteps := 4000000}) (disch := omega) only [push_cast, c25, Nat.reduceAdd, Nat.reduceSub, Nat.reduceMul, Nat.reduceBEq, Int.reduceToNat, Int.reduceNeg, Int.reduceLE, Int.reduceLT, Int.reduceBEq, Int.reduceBNe, Int.reduceEq, Bool.not_true, Bool.not_false, eq_self, reduceCtorEq]
  refine ⟨fun hv => ⟨_, _, .inl ⟨hv, rfl, rfl⟩, rfl, rfl⟩, fun hv => ?_⟩
  refine callW_eq _ _ (f48 N O z z' _ (vmB_iff.1 hv)) ?_
  simp (config := {implicitDefEqProofs := false, maxSteps := 4000000}) (disch := omega) only [push_cast, c25, Nat.reduceAdd, Nat.reduceSub, Nat.reduceMul, Nat.reduceBEq, Int.reduceToNat, Int.reduceNeg, Int.reduceLE, Int.reduceLT, Int.reduceBEq, Int.reduceBNe, Int.reduceEq, Bool.not_true, Bool.not_false, eq_self, reduceCtorEq]
  exact ⟨_, _, .inr ⟨hv, rfl, rfl⟩, rfl, rfl⟩
/- slices.Index[[]int,int] -/
def c49 : VCfg := ⟨⟨[], [], [], [0, 1, 4, 5, 7, 8, 9, 16]⟩, [], [], []⟩
theorem f49 (l : List Int) (z : Bool) (x : Int) (hl : l.length ≤ 4611686018427387904) (i0 : Nat) (h0 : i0 < l.length) (h1 : l.getD i0 0 = x) (h2 : ∀ t, t < i0 → l.getD t 0 ≠ x) : ACall Tryd.prog 49 [.pay (.ints .i64 l) z, .int .i64 x] (fun r objs => r = .int .i64 i0 ∧ objs = []) := by
  refine acall_intro (tyP_ok _) c49 2000 [.tmp 4] Tryd.func49 rfl (by rfl) rfl (by kernel_rfl) ?_
  unfold Tryd.f49
  simp (config := {implicitDefEqProofs := false, maxSteps := 4000000}) (disch := omega) only [push_cast, c49, Nat.reduceAdd, Nat.reduceSub, Nat.reduceMul, Nat.reduceBEq, Int.reduceToNat, Int.reduceNeg, Int.reduceLE, Int.reduceLT, Int.reduceBEq, Int.reduceBNe, Int.reduceEq, Bool.not_true, Bool.not_false, eq_self, reduceCtorEq]
  refine awp_upto (tyP_ok _) c49 2000 [0, 1, 4, 7, 8] (l.length) (fun i => i ≤ i0) (fun i => ⟨19, [(0, .pay (.ints .i64 l) z), (1, .int .i64 x), (4, .int .i64 0), (7, .int .i64 l.length), (8, .int .i64 i)], []⟩) (by kernel_rfl) ?_ ?_ ?_
  · simp (config := {implicitDefEqProofs := false, maxSteps := 4000000}) (disch := omega) only [push_cast, c49, Nat.reduceAdd, Nat.reduceSub, Nat.reduceMul, Nat.reduceBEq, Int.reduceToNat, Int.reduceNeg, Int.reduceLE, Int.reduceLT, Int.reduceBEq, Int.reduceBNe, Int.reduceEq, Bool.not_true, Bool.not_false, eq_self, reduceCtorEq]
  · exact Nat.zero_le _
  intro i hi hr
  simp (config := {implicitDefEqProofs := false, maxSteps := 4000000}) (disch := omega) only [push_cast, c49, Nat.reduceAdd, Nat.reduceSub, Nat.reduceMul, Nat.reduceBEq, Int.reduceToNat, Int.reduceNeg, Int.reduceLE, Int.reduceLT, Int.reduceBEq, Int.reduceBNe, Int.reduceEq, Bool.not_true, Bool.not_false, eq_self, reduceCtorEq]
  refine ⟨fun hlt => ⟨hlt, fun he => ?_, fun hne => ?_⟩, fun hge => ?_⟩
  · rcases Nat.lt_or_eq_of_le hr with h | h
    · exact absurd he.symm (h2 i h)
    · rw [h]
  · refine ⟨hlt, ?_⟩
    rcases Nat.lt_or_eq_of_le hr with h | h
    · exact h
    · subst h; exact absurd h1.symm hne
  · omega
/- slices.Clone[[]int,int] -/
def c50 : VCfg := ⟨⟨[], [], [], [0, 2, 4]⟩, [], [], []⟩
theorem f50 (l : List Int) (z : Bool) (hl : l.length ≤ 140737488355) (h0 : l ≠ []) : ACall Tryd.prog 50 [.pay (.ints .i64 l) z] (fun r objs => r = .pay (.ints .i64 l) false ∧ objs = []) := by
  have hp : 0 < l.length := List.length_pos_iff.2 h0
  suffices h : ACall Tryd.prog 50 [.pay (.ints .i64 l) z] (fun r objs => r = .own 0 ∧ objs = [.arr (.ints .i64 l) ⟨3, false⟩]) by
    refine h.frz ?_
    rintro r objs ⟨rfl, rfl⟩
    exact ⟨[0], _, 1, rfl, rfl, rfl⟩
  cases z
  all_goals
    refine acall_intro (tyP_ok _) c50 2000 [.tmp 2] Tryd.func50 rfl (by rfl) rfl (by kernel_rfl) ?_
    unfold Tryd.f50
    simp (config := {implicitDefEqProofs := false, maxSteps := 4000000}) (disch := omega) only [push_cast, c50, Nat.reduceAdd, Nat.reduceSub, Nat.reduceMul, Nat.reduceBEq, Int.reduceToNat, Int.reduceNeg, Int.reduceLE, Int.reduceLT, Int.reduceBEq, Int.reduceBNe, Int.reduceEq, Bool.not_true, Bool.not_false, eq_self, reduceCtorEq]
  · exact ⟨by omega, by omega⟩
  · exact ⟨fun h => by have := of_decide_eq_true h; omega, fun _ => by omega⟩
/-- what Minimal answers -/
def MinR (N O A B : List (List Int)) (e : Int) : Prop := (vmB N O = false ∧ e = 1 ∧ A = [] ∧ B = []) ∨ (vmB N O = true ∧ e = 0 ∧ A = minN N O (N.getD 0 []).length ∧ B = minO N O (N.getD 0 []).length)
theorem minN_len {N O : List (List Int)} {k : Nat} : (minN N O k).length = cntT N O k := by simp [minN]
theorem minO_len {N O : List (List Int)} {k : Nat} : (minO N O k).length = cntT N O k := by simp [minO]
theorem minN_take {N O : List (List Int)} {k i : Nat} (h : i < cntT N O k) : (minN N O k).take i ++ [rowN N O k (repC N O k i)] = (minN N O k).take (i + 1) := by
  rw [List.take_succ_eq_append_getElem (by rw [minN_len]; exact h)]
  simp [minN]
theorem minO_take {N O : List (List Int)} {k i : Nat} (h : i < cntT N O k) : (minO N O k).take i ++ [O.getD (repC N O k i) []] = (minO N O k).take (i + 1) := by
  rw [List.take_succ_eq_append_getElem (by rw [minO_len]; exact h)]
  simp [minO]
/- mizmaze/mealy.Minimal -/
def c26 : VCfg := ⟨⟨[], [], [9], [0, 1, 2, 3, 4, 5, 6, 7, 8, 9, 11, 14, 22, 23, 24, 33, 34, 35, 36]⟩, [(16, (.op 0 .strict (.op 1 .loose (.op 2 .strict (.op 3 .strict (.op 4 .strict (.op 5 .strict (.op 6 .strict (.op 7 .eff (.op 8 .eff (.op 9 .eff (.op 10 .loose (.op 11 .eff .nil)))))))))))))], [], []⟩
set_option maxHeartbeats 4000000 in
set_option maxRecDepth 100000 in
theorem f26 (N O : List (List Int)) (z z' : Bool) (hl : N.length ≤ 4611686018427387904) (hl2 : ∀ r ∈ N, r.length ≤ 4611686018427387904) (ho : O.length ≤ 4611686018427387904) (ho2 : ∀ r ∈ O, r.length ≤ 4611686018427387904) :
    ACall Tryd.prog 26 [.agg [.pay (.rows (N)) (z), .pay (.rows (O)) (z')]] (fun r objs => ∃ A B e nz nz', MinR N O A B e ∧ r = .tup [.agg [.pay (.rows (A)) (nz), .pay (.rows (B)) (nz')], .int .i64 e] ∧ objs = []) := by
  suffices h : ACall Tryd.prog 26 [.agg [.pay (.rows (N)) (z), .pay (.rows (O)) (z')]] (fun r objs => (vmB N O = false ∧ r = .tup [.agg [.lit (.slice none 0 0), .lit (.slice none 0 0)], .int .i64 1] ∧ objs = []) ∨ (vmB N O = true ∧ r = .tup [.agg [.own 0, .own 1], .int .i64 0] ∧ objs = [.arr (.rows (minN N O (N.getD 0 []).length)) ⟨27, true⟩, .arr (.rows (minO N O (N.getD 0 []).length)) ⟨27, true⟩])) by
    have h2 := h.fill (.rows []) rfl (Q' := fun r objs => (vmB N O = false ∧ r = .tup [.agg [.pay (.rows ([])) (true), .pay (.rows ([])) (true)], .int .i64 1] ∧ objs = []) ∨ (vmB N O = true ∧ r = .tup [.agg [.own 0, .own 1], .int .i64 0] ∧ objs = [.arr (.rows (minN N O (N.getD 0 []).length)) ⟨27, true⟩, .arr (.rows (minO N O (N.getD 0 []).length)) ⟨27, true⟩])) (by
      rintro r objs (⟨h1, rfl, rfl⟩ | ⟨h1, rfl, rfl⟩)
      · exact .inl ⟨h1, rfl, rfl⟩
      · exact .inr ⟨h1, rfl, rfl⟩)
    refine h2.frz ?_
    rintro r objs (⟨h1, rfl, rfl⟩ | ⟨h1, rfl, rfl⟩)
    · exact ⟨[], _, 0, rfl, _, _, _, _, _, .inl ⟨h1, rfl, rfl, rfl⟩, rfl, rfl⟩
    · exact ⟨[0, 1], _, 2, rfl, _, _, _, _, _, .inr ⟨h1, rfl, rfl, rfl⟩, rfl, rfl⟩
  refine acall_intro (tyP_ok _) c26 2000 [.cell 2 24, .tmp 3] Tryd.func26 rfl (by rfl) rfl (by kernel_rfl) ?_
  unfold Tryd.f26
  simp (config := {implicitDefEqProofs := false, maxSteps := 4000000}) (disch := omega) only [push_cast, c26, Nat.reduceAdd, Nat.reduceSub, Nat.reduceMul, Nat.reduceBEq, Int.reduceToNat, Int.reduceNeg, Int.reduceLE, Int.reduceLT, Int.reduceBEq, Int.reduceBNe, Int.reduceEq, Bool.not_true, Bool.not_false, eq_self, reduceCtorEq]
  refine callW_eq _ _ (f35 N O z z' hl hl2 ho ho2) ?_
  simp (config := {implicitDefEqProofs := false, maxSteps := 4000000}) (disch := omega) only [push_cast, c26, Nat.reduceAdd, Nat.reduceSub, Nat.reduceMul, Nat.reduceBEq, Int.reduceToNat, Int.reduceNeg, Int.reduceLE, Int.reduceLT, Int.reduceBEq, Int.reduceBNe, Int.reduceEq, Bool.not_true, Bool.not_false, eq_self, reduceCtorEq]
  refine ⟨fun hv => .inl hv, fun hv => ?_⟩
  have hV := vmB_iff.1 hv
  generalize hk : (N.getD 0 []).length = k at *
  have hn := hV.v.n2
  have hk2 := hV.v.k2
  have hcn : cntT N O k ≤ N.length := cntI_le _
  have hcl := clsT_len (N := N) (O := O) (k := k)
  refine callW_eq _ _ (f48 N O z z' _ hV) ?_
  simp (config := {implicitDefEqProofs := false, maxSteps := 4000000}) (disch := omega) only [push_cast, c26, Nat.reduceAdd, Nat.reduceSub, Nat.reduceMul, Nat.reduceBEq, Int.reduceToNat, Int.reduceNeg, Int.reduceLE, Int.reduceLT, Int.reduceBEq, Int.reduceBNe, Int.reduceEq, Bool.not_true, Bool.not_false, eq_self, reduceCtorEq]
  refine awp_virt (i := 1) (c := 0) (p := .rows []) 27 rfl rfl rfl ?_
  refine awp_virt (i := 1) (c := 1) (p := .rows []) 27 rfl rfl rfl ?_
  refine awp_upto (tyP_ok _) c26 2000 [1, 2, 3, 4, 6, 22, 23] (cntT N O k) (fun _ => True) (fun i => ⟨66, [(1, .fref [.pay (.rows N) z, .pay (.rows O) z']), (2, .ref 0 0), (3, .int .i64 0), (4, .pay (.ints .i64 (clsT N O k)) true), (6, .ref 1 0), (22, .int .i64 (cntT N O k)), (23, .int .i64 i)], [.box [.lit (.slice none 0 0), .lit (.slice none 0 0)], .box [.own 2, .own 3], .arr (.rows ((minN N O k).take i)) ⟨27, true⟩, .arr (.rows ((minO N O k).take i)) ⟨27, true⟩]⟩) (by kernel_rfl) ?_ ?_ ?_
  · simp (config := {implicitDefEqProofs := false, maxSteps := 4000000}) (disch := omega) only [push_cast, c26, Nat.reduceAdd, Nat.reduceSub, Nat.reduceMul, Nat.reduceBEq, Int.reduceToNat, Int.reduceNeg, Int.reduceLE, Int.reduceLT, Int.reduceBEq, Int.reduceBNe, Int.reduceEq, Bool.not_true, Bool.not_false, eq_self, reduceCtorEq]
  · trivial
  intro i hi _
  simp (config := {implicitDefEqProofs := false, maxSteps := 4000000}) (disch := omega) only [push_cast, c26, Nat.reduceAdd, Nat.reduceSub, Nat.reduceMul, Nat.reduceBEq, Int.reduceToNat, Int.reduceNeg, Int.reduceLE, Int.reduceLT, Int.reduceBEq, Int.reduceBNe, Int.reduceEq, Bool.not_true, Bool.not_false, eq_self, reduceCtorEq]
  refine ⟨fun hlt => ?_, fun hge => ?_⟩
  · obtain ⟨r1, r2, r3, r4⟩ := repC_ok hlt
    have r5 := fun t h => repC_first (N := N) (O := O) (k := k) (t := t) hlt h
    have hmt := minN_take hlt
    have hmo := minO_take hlt
    refine callW_eq _ _ (f49 (clsT N O k) true (i : Int) (by omega) (repC N O k i) (by omega) r4 r5) ?_
    have hrw : rowN N O k (repC N O k i) = (N.getD (repC N O k i) []).map fun t => (clsT N O k).getD t.toNat 0 := rfl
    generalize repC N O k i = s at *
    have hn1 := hV.v.row _ (getD_mem' r1)
    have ho1 : (O.getD s []).length = k := (hV.orow _ (getD_mem' (by have := hV.ol; omega))).1
    simp (config := {implicitDefEqProofs := false, maxSteps := 4000000}) (disch := omega) only [push_cast, c26, Nat.reduceAdd, Nat.reduceSub, Nat.reduceMul, Nat.reduceBEq, Int.reduceToNat, Int.reduceNeg, Int.reduceLE, Int.reduceLT, Int.reduceBEq, Int.reduceBNe, Int.reduceEq, Bool.not_true, Bool.not_false, eq_self, reduceCtorEq]
    refine ⟨r1, ?_⟩
    refine awp_upto (tyP_ok _) c26 2000 [1, 2, 3, 4, 6, 8, 9, 22, 23, 33, 34, 35] ((N.getD s []).length) (fun _ => True) (fun x => ⟨66, [(1, .fref [.pay (.rows N) z, .pay (.rows O) z']), (2, .ref 0 0), (3, .int .i64 0), (4, .pay (.ints .i64 (clsT N O k)) true), (6, .ref 1 0), (8, .int .i64 s), (9, .own 2), (22, .int .i64 (cntT N O k)), (23, .int .i64 i), (33, .pay (.ints .i64 (N.getD s [])) false), (34, .int .i64 (N.getD s []).length), (35, .int .i64 x)], [.box [.lit (.slice none 0 0), .lit (.slice none 0 0)], .box [.own 3, .own 4], .arr (.ints .i64 (((N.getD s []).take x).map fun t => (clsT N O k).getD t.toNat 0)) ⟨3, true⟩, .arr (.rows ((minN N O k).take i)) ⟨27, true⟩, .arr (.rows ((minO N O k).take i)) ⟨27, true⟩]⟩) (by kernel_rfl) ?_ ?_ ?_
    · rw [List.take_zero, List.map_nil]; simp (config := {implicitDefEqProofs := false, maxSteps := 4000000}) (disch := omega) only [push_cast, c26, Nat.reduceAdd, Nat.reduceSub, Nat.reduceMul, Nat.reduceBEq, Int.reduceToNat, Int.reduceNeg, Int.reduceLE, Int.reduceLT, Int.reduceBEq, Int.reduceBNe, Int.reduceEq, Bool.not_true, Bool.not_false, eq_self, reduceCtorEq]
    · trivial
    intro x hx _
    simp (config := {implicitDefEqProofs := false, maxSteps := 4000000}) (disch := omega) only [push_cast, c26, Nat.reduceAdd, Nat.reduceSub, Nat.reduceMul, Nat.reduceBEq, Int.reduceToNat, Int.reduceNeg, Int.reduceLE, Int.reduceLT, Int.reduceBEq, Int.reduceBNe, Int.reduceEq, Bool.not_true, Bool.not_false, eq_self, reduceCtorEq]
    refine ⟨fun hxl => ?_, fun hge => ?_⟩
    · have hx1 := hn1.2 _ (getD_mem hxl)
      refine ⟨hxl, ⟨hx1.1, by omega⟩, by simp only [List.length_map, List.length_take]; omega, hxl, ?_⟩
      rw [map_take_succI' hxl]
    · rw [List.take_of_length_le hge]
      have hol := hV.ol
      have hk1 := hV.v.k1
      have hmn := minN_len (N := N) (O := O) (k := k)
      have hmo2 := minO_len (N := N) (O := O) (k := k)
      refine ⟨by rw [List.length_take]; omega, by omega, ?_⟩
      refine callW_eq _ _ (f50 (O.getD s []) false (by omega) (fun e => by rw [e] at ho1; simp at ho1; omega)) ?_
      simp (config := {implicitDefEqProofs := false, maxSteps := 4000000}) (disch := omega) only [push_cast, c26, Nat.reduceAdd, Nat.reduceSub, Nat.reduceMul, Nat.reduceBEq, Int.reduceToNat, Int.reduceNeg, Int.reduceLE, Int.reduceLT, Int.reduceBEq, Int.reduceBNe, Int.reduceEq, Bool.not_true, Bool.not_false, eq_self, reduceCtorEq]
      rw [← hrw, hmt, hmo]
      exact ⟨by rw [List.length_take]; omega, hlt, rfl, rfl⟩
  · exact .inr ⟨hv, by rw [List.take_of_length_le (by rw [minN_len]; exact hge)], by rw [List.take_of_length_le (by rw [minO_len]; exact hge)]⟩
end Go.AM
end

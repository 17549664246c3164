/-
  Contracts of ClassesOf and Classes; conditions in each statement.
-/
import Derived.Test.YthgglfpklgjibaaGreatDoorS2
import Derived.Test.YthgglfpklgjibaaGreatDoorP2
import Derived.Test.YthgglfpklgjibaaGreatDoorF5
set_option linter.unusedVariables false
set_option linter.unusedSimpArgs false
set_option linter.unusedSectionVars false

/-! text Ue8 -/
section
namespace Go.AM
open Go Go.Proofs
def rowS (N O : List (List Int)) (k : Nat) (c : List Int) (s : Nat) : List Int := rowK N O c s k
/- mizmaze/mealy.refined -/
def c59 : VCfg := ⟨⟨[], [9], [7], [0, 1, 2, 4, 5, 6, 7, 8, 9, 10, 11, 13, 17, 18, 19, 30, 31, 32, 33, 65]⟩, [(10, (.op 0 .loose (.op 1 .loose (.op 2 .loose (.op 3 .strict (.op 4 .strict (.op 5 .strict (.op 6 .loose (.op 7 .loose (.op 8 .loose (.op 9 .loose (.op 10 .strict (.op 11 .strict (.op 12 .strict (.op 13 .strict (.op 14 .strict (.op 15 .strict (.op 16 .strict (.op 17 .strict (.op 18 .loose (.op 19 .eff (.op 20 .loose (.op 21 .eff .nil)))))))))))))))))))))))], [], []⟩
def O59 (out : List Int) (m : List (List Int × Int)) : List AObj := [.mapI .arr m, .arr (.ints .i64 out) ⟨3, true⟩]
set_option maxHeartbeats 4000000 in
set_option maxRecDepth 100000 in
theorem f59 (N O : List (List Int)) (z z' y : Bool) (c : List Int) (k : Nat) (hV : VM N O k) (hc : c.length = N.length) :
    ACall Tryz.prog 59 [.agg [.pay (.rows (N)) (z), .pay (.rows (O)) (z')], .pay (.ints .i64 c) y] (fun r objs => r = .tup [.pay (.ints .i64 ((List.range N.length).map fun s => ((numF (keyE (rowS N O k c)) s : Nat) : Int))) true, .int .i64 (cntF (keyE (rowS N O k c)) N.length)] ∧ objs = []) := by
  suffices h : ACall Tryz.prog 59 [.agg [.pay (.rows (N)) (z), .pay (.rows (O)) (z')], .pay (.ints .i64 c) y] (fun r objs => r = .tup [.own 0, .int .i64 (cntF (keyE (rowS N O k c)) N.length)] ∧ objs = [.arr (.ints .i64 ((List.range N.length).map fun s => ((numF (keyE (rowS N O k c)) s : Nat) : Int))) ⟨3, true⟩]) by
    refine h.frz ?_
    rintro r objs ⟨rfl, rfl⟩
    exact ⟨[0], _, 1, rfl, rfl, rfl⟩
  have hn := hV.v.n2
  have hk2 := hV.v.k2
  have hol := hV.ol
  generalize hf : rowS N O k c = f
  have hfl : ∀ t, (f t).length = 13 := fun t => by rw [← hf]; exact rowA_len _ _ _ _
  refine acall_intro (tyP_ok _) c59 2000 [.tmp 4, .tmp 5] Tryz.func59 rfl (by rfl) rfl (by kernel_rfl) ?_
  unfold Tryz.f59
  simp (config := {implicitDefEqProofs := false, maxSteps := 4000000}) (disch := omega) only [push_cast, c59, Nat.reduceAdd, Nat.reduceSub, Nat.reduceMul, Nat.reduceBEq, Int.reduceToNat, Int.reduceNeg, Int.reduceLE, Int.reduceLT, Int.reduceBEq, Int.reduceBNe, Int.reduceEq, Bool.not_true, Bool.not_false, eq_self, reduceCtorEq]
  refine awp_upto (tyP_ok _) c59 2000 [1, 2, 4, 5, 6, 7, 17, 18] (N.length) (fun _ => True) (fun i => ⟨80, [(1, .pay (.ints .i64 c) y), (2, .fref [.pay (.rows N) z, .pay (.rows O) z']), (4, .pay (.ints .i64 []) true), (5, .int .i64 0), (6, .mapr 0), (7, .own 1), (17, .int .i64 N.length), (18, .int .i64 i)], O59 ((List.range i).map fun s => ((numF (keyE f) s : Nat) : Int)) (mapR f i)⟩) (by kernel_rfl) ?_ ?_ ?_
  · simp (config := {implicitDefEqProofs := false, maxSteps := 4000000}) (disch := omega) only [push_cast, c59, O59, Nat.reduceAdd, Nat.reduceSub, Nat.reduceMul, Nat.reduceBEq, Int.reduceToNat, Int.reduceNeg, Int.reduceLE, Int.reduceLT, Int.reduceBEq, Int.reduceBNe, Int.reduceEq, Bool.not_true, Bool.not_false, eq_self, reduceCtorEq]
    exact ⟨rfl, rfl⟩
  · trivial
  intro i hi _
  simp (config := {implicitDefEqProofs := false, maxSteps := 4000000}) (disch := omega) only [push_cast, c59, O59, Nat.reduceAdd, Nat.reduceSub, Nat.reduceMul, Nat.reduceBEq, Int.reduceToNat, Int.reduceNeg, Int.reduceLE, Int.reduceLT, Int.reduceBEq, Int.reduceBNe, Int.reduceEq, Bool.not_true, Bool.not_false, eq_self, reduceCtorEq]
  refine ⟨fun hlt => ?_, fun hge => ?_⟩
  · have hn1 : (N.getD i []).length = k := (hV.v.row _ (getD_mem' hlt)).1
    have ho1 : (O.getD i []).length = k := (hV.orow _ (getD_mem' (by omega))).1
    have hrow := hV.v.row _ (getD_mem' hlt)
    rw [hn1]
    refine ⟨by omega, hlt, ?_⟩
    refine awp_upto (tyP_ok _) c59 2000 [1, 2, 4, 5, 6, 7, 8, 9, 17, 18, 30, 31, 32] (k) (fun _ => True) (fun x => ⟨80, [(1, .pay (.ints .i64 c) y), (2, .fref [.pay (.rows N) z, .pay (.rows O) z']), (4, .pay (.ints .i64 []) true), (5, .int .i64 0), (6, .mapr 0), (7, .own 1), (8, .int .i64 i), (9, .ref 2 0), (17, .int .i64 N.length), (18, .int .i64 i), (30, .pay (.ints .i64 (N.getD i [])) false), (31, .int .i64 k), (32, .int .i64 x)], O59 ((List.range i).map fun s => ((numF (keyE f) s : Nat) : Int)) (mapR f i) ++ [.arr (.ints .i64 (rowK N O c i x)) ⟨130, false⟩]⟩) (by kernel_rfl) ?_ ?_ ?_
    · simp (config := {implicitDefEqProofs := false, maxSteps := 4000000}) (disch := omega) only [push_cast, c59, O59, Nat.reduceAdd, Nat.reduceSub, Nat.reduceMul, Nat.reduceBEq, Int.reduceToNat, Int.reduceNeg, Int.reduceLE, Int.reduceLT, Int.reduceBEq, Int.reduceBNe, Int.reduceEq, Bool.not_true, Bool.not_false, eq_self, reduceCtorEq]
      rfl
    · trivial
    intro x hx _
    have hrl : (rowK N O c i x).length = 13 := rowA_len _ _ _ _
    simp (config := {implicitDefEqProofs := false, maxSteps := 4000000}) (disch := omega) only [push_cast, c59, O59, hrl, Nat.reduceAdd, Nat.reduceSub, Nat.reduceMul, Nat.reduceBEq, Int.reduceToNat, Int.reduceNeg, Int.reduceLE, Int.reduceLT, Int.reduceBEq, Int.reduceBNe, Int.reduceEq, Bool.not_true, Bool.not_false, eq_self, reduceCtorEq]
    refine ⟨fun hxk => ?_, fun hxk => ?_⟩
    · have hx1 := hrow.2 _ (getD_mem (show x < (N.getD i []).length by omega))
      have e1 : (1 + 2 * (x : Int)).toNat = 1 + 2 * x := by omega
      have e2 : (2 + 2 * (x : Int)).toNat = 2 + 2 * x := by omega
      rw [e1, e2, List.length_set, hrl]
      refine ⟨by omega, ⟨hx1.1, by omega⟩, by omega, by omega, ⟨⟨by omega, by omega⟩, by omega⟩, ⟨⟨by omega, by omega⟩, by omega⟩, hxk, ?_⟩
      simp [rowK, rowA, nxG, outG]
    · have hxe : x = k := by omega
      subst hxe
      have hfi : rowK N O c i x = f i := by rw [← hf]; rfl
      have hks := mapR_keys f hfl i
      have hks1 := mapR_keys f hfl (i + 1)
      have hmp : (List.range i).map (fun s => ((numF (keyE f) s : Nat) : Int)) ++ [((numF (keyE f) i : Nat) : Int)] = (List.range (i + 1)).map (fun s => ((numF (keyE f) s : Nat) : Int)) := by simp [List.range_succ]
      rw [hfi]
      refine ⟨hks, fun hnew => ?_, fun hold => ?_⟩
      · have hF : isF (keyE f) i = true := by
          cases e : isF (keyE f) i with
          | true => rfl
          | false => rw [(mapR_old f e).1] at hnew; cases hnew
        obtain ⟨g1, g2, g3⟩ := mapR_new f hF
        rw [g2, g3]
        exact ⟨hks, hks1, by simp; omega, hlt, rfl, hmp⟩
      · have hF : isF (keyE f) i = false := by
          cases e : isF (keyE f) i with
          | false => rfl
          | true => rw [(mapR_new f e).1] at hold; cases hold
        obtain ⟨g1, g2, g3⟩ := mapR_old f hF
        rw [g2, g3]
        exact ⟨hks, by simp; omega, hlt, rfl, hmp⟩
  · rw [mapR_len, show i = N.length by omega]
    exact ⟨rfl, rfl⟩
/-- one step of the program is one step of the reference -/
theorem refined_is {N O : List (List Int)} {k : Nat} (hV : VM N O k) (i : Nat) :
    ((List.range N.length).map fun s => ((numF (keyE (rowS N O k (clsI N O k i))) s : Nat) : Int)) = clsI N O k (i + 1) ∧ cntF (keyE (rowS N O k (clsI N O k i))) N.length = cntI N O k (i + 1) := by
  have hE : ∀ s t, s < N.length → t < N.length → keyE (rowS N O k (clsI N O k i)) s t = keyE (kF N O k (clsI N O k i)) s t := fun s t hs ht => by
    rw [← kP_E hV i s t hs ht]
    simp only [keyE, decide_eq_decide]
    exact rowK_eq hV.v.k2
  refine ⟨?_, ?_⟩
  · show _ = nextC N O k (clsI N O k i)
    unfold nextC
    refine List.map_congr_left fun s hs => ?_
    rw [numF_congr hE (List.mem_range.1 hs)]
  · rw [cntI_succ, cntF_congr hE _ (Nat.le_refl _)]
/- mizmaze/mealy.ClassesOf -/
def c38 : VCfg := ⟨⟨[], [], [], [0, 1, 2, 3, 4, 5, 6, 7, 20]⟩, [], [], []⟩
set_option maxRecDepth 100000 in
theorem f38 (N O : List (List Int)) (z z' : Bool) (k : Nat) (hV : VM N O k) :
    ACall Tryz.prog 38 [.agg [.pay (.rows (N)) (z), .pay (.rows (O)) (z')]] (fun r objs => r = .tup [.pay (.ints .i64 (clsT N O k)) true, .int .i64 (cntT N O k)] ∧ objs = []) := by
  have hn := hV.v.n2
  have hn1 := hV.v.n1
  refine acall_intro (tyP_ok _) c38 2000 [.tmp 2, .tmp 3] Tryz.func38 rfl (by rfl) rfl (by kernel_rfl) ?_
  unfold Tryz.f38
  simp (config := {implicitDefEqProofs := false, maxSteps := 4000000}) (disch := omega) only [push_cast, c38, Nat.reduceAdd, Nat.reduceSub, Nat.reduceMul, Nat.reduceBEq, Int.reduceToNat, Int.reduceNeg, Int.reduceLE, Int.reduceLT, Int.reduceBEq, Int.reduceBNe, Int.reduceEq, Bool.not_true, Bool.not_false, eq_self, reduceCtorEq]
  refine ⟨by omega, ?_⟩
  refine awp_freeze [0] ?_
  refine awp_loop (tyP_ok _) c38 2000 [1, 2, 3, 4, 5] (fun n g st => ∃ (i : Nat) (nz : Bool), g = (false, 0) ∧ (∀ j, j < i → cntI N O k (j + 1) ≠ cntI N O k j) ∧ n = N.length - i ∧ st = ⟨25, [(1, .fref [.pay (.rows N) z, .pay (.rows O) z']), (2, .pay (.ints .i64 []) true), (3, .int .i64 0), (4, .pay (.ints .i64 (clsI N O k i)) nz), (5, .int .i64 (cntI N O k i))], []⟩) N.length (by kernel_rfl) ?_ ?_
  · refine ⟨0, false, rfl, fun j hj => by omega, rfl, ?_⟩
    rw [cntI_zero hn1]
    simp (config := {implicitDefEqProofs := false, maxSteps := 4000000}) (disch := omega) only [push_cast, c38, Nat.reduceAdd, Nat.reduceSub, Nat.reduceMul, Nat.reduceBEq, Int.reduceToNat, Int.reduceNeg, Int.reduceLE, Int.reduceLT, Int.reduceBEq, Int.reduceBNe, Int.reduceEq, Bool.not_true, Bool.not_false, eq_self, reduceCtorEq]
    rfl
  rintro n g st ⟨i, nz, rfl, hi, rfl, rfl⟩
  simp (config := {implicitDefEqProofs := false, maxSteps := 4000000}) (disch := omega) only [push_cast, c38, Nat.reduceAdd, Nat.reduceSub, Nat.reduceMul, Nat.reduceBEq, Int.reduceToNat, Int.reduceNeg, Int.reduceLE, Int.reduceLT, Int.reduceBEq, Int.reduceBNe, Int.reduceEq, Bool.not_true, Bool.not_false, eq_self, reduceCtorEq]
  have h1 := f59 N O z z' nz (clsI N O k i) k hV (clsI_len i)
  rw [(refined_is hV i).1, (refined_is hV i).2] at h1
  refine callW_eq _ _ h1 ?_
  simp (config := {implicitDefEqProofs := false, maxSteps := 4000000}) (disch := omega) only [push_cast, c38, Nat.reduceAdd, Nat.reduceSub, Nat.reduceMul, Nat.reduceBEq, Int.reduceToNat, Int.reduceNeg, Int.reduceLE, Int.reduceLT, Int.reduceBEq, Int.reduceBNe, Int.reduceEq, Bool.not_true, Bool.not_false, eq_self, reduceCtorEq]
  refine ⟨fun he => ?_, fun hne => ?_⟩
  · obtain ⟨g1, g2⟩ := clsI_done hV hi (by omega)
    exact ⟨g1, by rw [g2]; rfl⟩
  · have h2 : ∀ j, j < i + 1 → cntI N O k (j + 1) ≠ cntI N O k j := upto_succ hi (by omega)
    have h3 := cntI_grow hV (i + 1) h2
    have h4 := cntI_le (N := N) (O := O) (k := k) (i + 1)
    exact ⟨N.length - (i + 1), by omega, i + 1, true, h2, rfl, ⟨rfl, rfl⟩, rfl⟩
end Go.AM
end

/-! text Ue9 -/
section
namespace Go.AM
open Go Go.Proofs
/-- what Classes answers -/
def ClassR (N O : List (List Int)) (c : List Int) (e : Int) : Prop := (vmB N O = false ∧ e = 1 ∧ c = []) ∨ (vmB N O = true ∧ e = 0 ∧ c = clsT N O (N.getD 0 []).length)
/- mizmaze/mealy.Classes -/
def c18 : VCfg := ⟨⟨[], [], [], [0, 1, 2, 3, 4, 8]⟩, [], [], []⟩
set_option maxRecDepth 100000 in
theorem f18 (N O : List (List Int)) (z z' : Bool) (hl : N.length ≤ 4611686018427387904) (hl2 : ∀ r ∈ N, r.length ≤ 4611686018427387904) (ho : O.length ≤ 4611686018427387904) (ho2 : ∀ r ∈ O, r.length ≤ 4611686018427387904) :
    ACall Tryz.prog 18 [.agg [.pay (.rows (N)) (z), .pay (.rows (O)) (z')]] (fun r objs => ∃ c e, ClassR N O c e ∧ r = .tup [.pay (.ints .i64 c) true, .int .i64 e] ∧ objs = []) := by
  refine acall_intro (tyP_ok _) c18 2000 [.tmp 2, .tmp 3] Tryz.func18 rfl (by rfl) rfl (by kernel_rfl) ?_
  unfold Tryz.f18
  simp (config := {implicitDefEqProofs := false, maxSteps := 4000000}) (disch := omega) only [push_cast, c18, Nat.reduceAdd, Nat.reduceSub, Nat.reduceMul, Nat.reduceBEq, Int.reduceToNat, Int.reduceNeg, Int.reduceLE, Int.reduceLT, Int.reduceBEq, Int.reduceBNe, Int.reduceEq, Bool.not_true, Bool.not_false, eq_self, reduceCtorEq]
  refine callW_eq _ _ (f8 N O z z' hl hl2 ho ho2) ?_
  simp (config := {implicitDefEqProofs := false, maxSteps := 4000000}) (disch := omega) only [push_cast, c18, Nat.reduceAdd, Nat.reduceSub, Nat.reduceMul, Nat.reduceBEq, Int.reduceToNat, Int.reduceNeg, Int.reduceLE, Int.reduceLT, Int.reduceBEq, Int.reduceBNe, Int.reduceEq, Bool.not_true, Bool.not_false, eq_self, reduceCtorEq]
  refine ⟨fun hv => ⟨_, _, .inl ⟨hv, rfl, rfl⟩, rfl, rfl⟩, fun hv => ?_⟩
  refine callW_eq _ _ (f38 N O z z' _ (vmB_iff.1 hv)) ?_
  simp (config := {implicitDefEqProofs := false, maxSteps := 4000000}) (disch := omega) only [push_cast, c18, Nat.reduceAdd, Nat.reduceSub, Nat.reduceMul, Nat.reduceBEq, Int.reduceToNat, Int.reduceNeg, Int.reduceLE, Int.reduceLT, Int.reduceBEq, Int.reduceBNe, Int.reduceEq, Bool.not_true, Bool.not_false, eq_self, reduceCtorEq]
  exact ⟨_, _, .inr ⟨hv, rfl, rfl⟩, rfl, rfl⟩
/- slices.Index[[]int,int] -/
def c46 : VCfg := ⟨⟨[], [], [], [0, 1, 4, 5, 7, 8, 9, 16]⟩, [], [], []⟩
theorem f46 (l : List Int) (z : Bool) (x : Int) (hl : l.length ≤ 4611686018427387904) (i0 : Nat) (h0 : i0 < l.length) (h1 : l.getD i0 0 = x) (h2 : ∀ t, t < i0 → l.getD t 0 ≠ x) : ACall Tryz.prog 46 [.pay (.ints .i64 l) z, .int .i64 x] (fun r objs => r = .int .i64 i0 ∧ objs = []) := by
  refine acall_intro (tyP_ok _) c46 2000 [.tmp 4] Tryz.func46 rfl (by rfl) rfl (by kernel_rfl) ?_
  unfold Tryz.f46
  simp (config := {implicitDefEqProofs := false, maxSteps := 4000000}) (disch := omega) only [push_cast, c46, Nat.reduceAdd, Nat.reduceSub, Nat.reduceMul, Nat.reduceBEq, Int.reduceToNat, Int.reduceNeg, Int.reduceLE, Int.reduceLT, Int.reduceBEq, Int.reduceBNe, Int.reduceEq, Bool.not_true, Bool.not_false, eq_self, reduceCtorEq]
  refine awp_upto (tyP_ok _) c46 2000 [0, 1, 4, 7, 8] (l.length) (fun i => i ≤ i0) (fun i => ⟨19, [(0, .pay (.ints .i64 l) z), (1, .int .i64 x), (4, .int .i64 0), (7, .int .i64 l.length), (8, .int .i64 i)], []⟩) (by kernel_rfl) ?_ ?_ ?_
  · simp (config := {implicitDefEqProofs := false, maxSteps := 4000000}) (disch := omega) only [push_cast, c46, Nat.reduceAdd, Nat.reduceSub, Nat.reduceMul, Nat.reduceBEq, Int.reduceToNat, Int.reduceNeg, Int.reduceLE, Int.reduceLT, Int.reduceBEq, Int.reduceBNe, Int.reduceEq, Bool.not_true, Bool.not_false, eq_self, reduceCtorEq]
  · exact Nat.zero_le _
  intro i hi hr
  simp (config := {implicitDefEqProofs := false, maxSteps := 4000000}) (disch := omega) only [push_cast, c46, Nat.reduceAdd, Nat.reduceSub, Nat.reduceMul, Nat.reduceBEq, Int.reduceToNat, Int.reduceNeg, Int.reduceLE, Int.reduceLT, Int.reduceBEq, Int.reduceBNe, Int.reduceEq, Bool.not_true, Bool.not_false, eq_self, reduceCtorEq]
  refine ⟨fun hlt => ⟨hlt, fun he => ?_, fun hne => ?_⟩, fun hge => ?_⟩
  · rcases Nat.lt_or_eq_of_le hr with h | h
    · exact absurd he.symm (h2 i h)
    · rw [h]
  · refine ⟨hlt, ?_⟩
    rcases Nat.lt_or_eq_of_le hr with h | h
    · exact h
    · subst h; exact absurd h1.symm hne
  · omega
end Go.AM
end

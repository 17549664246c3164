/-
  Contracts of Reached on both sides, and of the reference's Run and Word; conditions in each statement.
-/
import Derived.Test.YthgglfpklgjibaaGreatDoorS5
import Derived.Test.YthgglfpklgjibaaGreatDoorP3
import Derived.Test.YthgglfpklgjibaaGreatDoorF5
set_option linter.unusedVariables false
set_option linter.unusedSimpArgs false
set_option linter.unusedSectionVars false

/-! text Ue15 -/
section
namespace Go.AM
open Go Go.Proofs
theorem f27 (y : Yc) (g : Gh) (l : List Int) (ai : AI) (hl : l.length < 4611686018427387904) : GCall Tryz.prog y 27 g [.own 0] [.arr (.ints .i64 l) ai] (fun g' r A O => g' = g ∧ r = .tup [] ∧ A = [.own 0] ∧ O = [.arr (.ints .i64 (sortL l)) ai]) := by
  refine gcall_inPlace Tryz.func27 rfl rfl (sortL_len l) (fun _ a cap w => Tryz.slices_Sort_int_none a cap w) (fun w b cap hH hb hc => (Tryz.slices_Sort_int b 0 cap l w hH hb hl).mono ?_)
  rintro e w' ⟨rfl, n, os, rfl⟩
  exact ⟨rfl, n, os, rfl⟩
theorem l46 (y : Yc) (g : Gh) (l : List Int) (ai : AI) (x : Int) (hl : l.length ≤ 4611686018427387904) :
    GCall Tryz.prog y 46 g [.own 0, .int .i64 x] [.arr (.ints .i64 l) ai] (fun g' r A O => g' = g ∧ (∃ n : Int, (0 ≤ n ↔ x ∈ l) ∧ r = .int .i64 n) ∧ A = [.own 0, .int .i64 x] ∧ O = [.arr (.ints .i64 l) ai]) := by
  refine gcall_intro (tyP_ok _) c46 2000 [.tmp 4] [0, 1] Tryz.func46 rfl (by rfl) rfl (by rfl) (by kernel_rfl) (by kernel_rfl) ?_
  unfold Tryz.f46
  simp (config := {implicitDefEqProofs := false, maxSteps := 4000000}) (disch := omega) only [push_cast, c46, Nat.reduceAdd, Nat.reduceSub, Nat.reduceMul, Nat.reduceBEq, Int.reduceToNat, Int.reduceNeg, Int.reduceLE, Int.reduceLT, Int.reduceBEq, Int.reduceBNe, Int.reduceEq, Bool.not_true, Bool.not_false, eq_self, reduceCtorEq]
  refine awp_upto (tyP_ok _) c46 2000 [0, 1, 4, 7, 8] (l.length) (fun i => ∀ j, j < i → l.getD j 0 ≠ x) (fun i => ⟨19, [(0, .own 0), (1, .int .i64 x), (4, .int .i64 0), (7, .int .i64 l.length), (8, .int .i64 i)], [.arr (.ints .i64 l) ai]⟩) (by kernel_rfl) ?_ ?_ ?_
  · simp (config := {implicitDefEqProofs := false, maxSteps := 4000000}) (disch := omega) only [push_cast, c46, Nat.reduceAdd, Nat.reduceSub, Nat.reduceMul, Nat.reduceBEq, Int.reduceToNat, Int.reduceNeg, Int.reduceLE, Int.reduceLT, Int.reduceBEq, Int.reduceBNe, Int.reduceEq, Bool.not_true, Bool.not_false, eq_self, reduceCtorEq]
  · exact fun j hj => by omega
  intro i hi hr
  simp (config := {implicitDefEqProofs := false, maxSteps := 4000000}) (disch := omega) only [push_cast, c46, Nat.reduceAdd, Nat.reduceSub, Nat.reduceMul, Nat.reduceBEq, Int.reduceToNat, Int.reduceNeg, Int.reduceLE, Int.reduceLT, Int.reduceBEq, Int.reduceBNe, Int.reduceEq, Bool.not_true, Bool.not_false, eq_self, reduceCtorEq]
  refine ⟨fun hlt => ⟨hlt, fun he => ⟨_, ⟨fun _ => by rw [he]; exact getD_mem hlt, fun _ => by omega⟩, rfl⟩, fun hne => ⟨hlt, upto_succ hr fun h => hne h.symm⟩⟩, fun hge => ⟨_, ⟨fun h => by omega, fun h => ?_⟩, rfl⟩⟩
  obtain ⟨j, hj, rfl⟩ := List.getElem_of_mem h
  exact absurd (by simp [List.getD, hj]) (hr j (by omega))
/- slices.Contains[[]int,int] -/
def c26 : VCfg := ⟨⟨[], [], [], [0, 1, 4]⟩, [], [46], [7]⟩
theorem f26 (y : Yc) (g : Gh) (l : List Int) (ai : AI) (x : Int) (hl : l.length ≤ 4611686018427387904) :
    GCall Tryz.prog y 26 g [.own 0, .int .i64 x] [.arr (.ints .i64 l) ai] (fun g' r A O => g' = g ∧ r = .bool (decide (x ∈ l)) ∧ A = [.own 0, .int .i64 x] ∧ O = [.arr (.ints .i64 l) ai]) := by
  refine gcall_intro (tyP_ok _) c26 2000 [.tmp 4] [0, 1] Tryz.func26 rfl (by rfl) rfl (by rfl) (by kernel_rfl) (by kernel_rfl) ?_
  unfold Tryz.f26
  simp (config := {implicitDefEqProofs := false, maxSteps := 4000000}) (disch := omega) only [push_cast, c26, Nat.reduceAdd, Nat.reduceSub, Nat.reduceMul, Nat.reduceBEq, Int.reduceToNat, Int.reduceNeg, Int.reduceLE, Int.reduceLT, Int.reduceBEq, Int.reduceBNe, Int.reduceEq, Bool.not_true, Bool.not_false, eq_self, reduceCtorEq]
  refine lcallW_rel (l46 _ _ _ _ _ hl) ?_
  rintro g' R A O ⟨rfl, ⟨n, hn, rfl⟩, rfl, rfl⟩
  simp (config := {implicitDefEqProofs := false, maxSteps := 4000000}) (disch := omega) only [push_cast, c26, Nat.reduceAdd, Nat.reduceSub, Nat.reduceMul, Nat.reduceBEq, Int.reduceToNat, Int.reduceNeg, Int.reduceLE, Int.reduceLT, Int.reduceBEq, Int.reduceBNe, Int.reduceEq, Bool.not_true, Bool.not_false, eq_self, reduceCtorEq]
  exact decide_eq_decide.2 hn
/-- what Reached answers -/
def ReachR (N O : List (List Int)) (s : Int) (l : List Int) (e : Int) : Prop :=
  (vmB N O = false ∧ e = 1 ∧ l = []) ∨ (vmB N O = true ∧ ¬ (0 ≤ s ∧ s < N.length) ∧ e = 2 ∧ l = []) ∨ (vmB N O = true ∧ (0 ≤ s ∧ s < N.length) ∧ e = 0 ∧ l = reachL N (N.getD 0 []).length s)
/- mizmaze/mealy.Reached -/
def c7 : VCfg := ⟨⟨[], [], [], [0, 1, 2, 4, 5, 6, 7, 9, 10, 14, 25, 35, 36, 37, 38, 44]⟩, [(9, (.op 0 .loose (.op 1 .loose (.op 2 .loose (.op 3 .loose (.op 4 .loose (.op 5 .loose (.op 6 .loose (.op 7 .loose (.op 8 .loose (.op 9 .loose .nil)))))))))))], [26, 27], [43, 51]⟩
set_option maxHeartbeats 4000000 in
set_option maxRecDepth 100000 in
theorem f7 (N O : List (List Int)) (z z' : Bool) (s : Int) (hl : N.length ≤ 4611686018427387904) (hl2 : ∀ r ∈ N, r.length ≤ 4611686018427387904) (ho : O.length ≤ 4611686018427387904) (ho2 : ∀ r ∈ O, r.length ≤ 4611686018427387904) :
    ACall Tryz.prog 7 [.agg [.pay (.rows (N)) (z), .pay (.rows (O)) (z')], .int .i64 s] (fun r objs => ∃ l e nz, ReachR N O s l e ∧ r = .tup [.pay (.ints .i64 l) nz, .int .i64 e] ∧ objs = []) := by
  suffices h : ACall Tryz.prog 7 [.agg [.pay (.rows (N)) (z), .pay (.rows (O)) (z')], .int .i64 s] (fun r objs => (∃ e, ReachR N O s [] e ∧ r = .tup [.pay (.ints .i64 []) true, .int .i64 e] ∧ objs = []) ∨ (ReachR N O s (reachL N (N.getD 0 []).length s) 0 ∧ r = .tup [.own 0, .int .i64 0] ∧ objs = [.arr (.ints .i64 (reachL N (N.getD 0 []).length s)) ⟨3, false⟩])) by
    refine h.frz ?_
    rintro r objs (⟨e, h1, rfl, rfl⟩ | ⟨h1, rfl, rfl⟩)
    · exact ⟨[], _, 0, rfl, _, _, _, h1, rfl, rfl⟩
    · exact ⟨[0], _, 1, rfl, _, _, _, h1, rfl, rfl⟩
  refine acall_intro (tyP_ok _) c7 2000 [.tmp 4, .tmp 5] Tryz.func7 rfl (by rfl) rfl (by kernel_rfl) ?_
  unfold Tryz.f7
  simp (config := {implicitDefEqProofs := false, maxSteps := 4000000}) (disch := omega) only [push_cast, c7, Nat.reduceAdd, Nat.reduceSub, Nat.reduceMul, Nat.reduceBEq, Int.reduceToNat, Int.reduceNeg, Int.reduceLE, Int.reduceLT, Int.reduceBEq, Int.reduceBNe, Int.reduceEq, Bool.not_true, Bool.not_false, eq_self, reduceCtorEq]
  refine callW_eq _ _ (f8 N O z z' hl hl2 ho ho2) ?_
  simp (config := {implicitDefEqProofs := false, maxSteps := 4000000}) (disch := omega) only [push_cast, c7, Nat.reduceAdd, Nat.reduceSub, Nat.reduceMul, Nat.reduceBEq, Int.reduceToNat, Int.reduceNeg, Int.reduceLE, Int.reduceLT, Int.reduceBEq, Int.reduceBNe, Int.reduceEq, Bool.not_true, Bool.not_false, eq_self, reduceCtorEq]
  refine ⟨fun hv => .inl ⟨_, .inl ⟨hv, rfl, rfl⟩, rfl⟩, fun hv => ?_⟩
  refine callW_eq _ _ (f23 N O z z') ?_
  simp (config := {implicitDefEqProofs := false, maxSteps := 4000000}) (disch := omega) only [push_cast, c7, Nat.reduceAdd, Nat.reduceSub, Nat.reduceMul, Nat.reduceBEq, Int.reduceToNat, Int.reduceNeg, Int.reduceLE, Int.reduceLT, Int.reduceBEq, Int.reduceBNe, Int.reduceEq, Bool.not_true, Bool.not_false, eq_self, reduceCtorEq]
  refine callW_eq _ _ (f22 N z s) ?_
  simp (config := {implicitDefEqProofs := false, maxSteps := 4000000}) (disch := omega) only [push_cast, c7, Nat.reduceAdd, Nat.reduceSub, Nat.reduceMul, Nat.reduceBEq, Int.reduceToNat, Int.reduceNeg, Int.reduceLE, Int.reduceLT, Int.reduceBEq, Int.reduceBNe, Int.reduceEq, Bool.not_true, Bool.not_false, eq_self, reduceCtorEq]
  refine ⟨fun hs => .inl ⟨_, .inr (.inl ⟨hv, hs, rfl, rfl⟩), rfl⟩, fun hs => ?_⟩
  have hV := vmB_iff.1 hv
  generalize hk : (N.getD 0 []).length = k at *
  have hn := hV.v.n2
  have hk2 := hV.v.k2
  refine awp_loop (tyP_ok _) c7 2000 [2, 4, 5, 6, 7] (fun n g st => ∃ i : Nat, g = (false, 0) ∧ i ≤ N.length ∧ n = N.length - i ∧ st = ⟨53, [(2, .fref [.pay (.rows N) z, .pay (.rows O) z']), (4, .pay (.ints .i64 []) true), (5, .int .i64 0), (6, .own 0), (7, .int .i64 i)], [.arr (.ints .i64 (bfs (dlN N) s k i).1) ⟨3, false⟩]⟩) N.length (by kernel_rfl) ?_ ?_
  · simp (config := {implicitDefEqProofs := false, maxSteps := 4000000}) (disch := omega) only [push_cast, c7, Nat.reduceAdd, Nat.reduceSub, Nat.reduceMul, Nat.reduceBEq, Int.reduceToNat, Int.reduceNeg, Int.reduceLE, Int.reduceLT, Int.reduceBEq, Int.reduceBNe, Int.reduceEq, Bool.not_true, Bool.not_false, eq_self, reduceCtorEq]
    exact ⟨0, Nat.zero_le _, rfl, rfl, rfl⟩
  rintro n g st ⟨i, rfl, hi, rfl, rfl⟩
  have hinv := bfs_inv (δ := dlN N) (s0 := s) (k := k) i
  have hbd := state_len hV hs hinv
  have hin := state_in hV hs hinv
  generalize hq0 : bfs (dlN N) s k i = q0 at *
  simp (config := {implicitDefEqProofs := false, maxSteps := 4000000}) (disch := omega) only [push_cast, c7, Nat.reduceAdd, Nat.reduceSub, Nat.reduceMul, Nat.reduceBEq, Int.reduceToNat, Int.reduceNeg, Int.reduceLE, Int.reduceLT, Int.reduceBEq, Int.reduceBNe, Int.reduceEq, Bool.not_true, Bool.not_false, eq_self, reduceCtorEq]
  refine ⟨fun hlt => ⟨hlt, ?_⟩, fun hge => ?_⟩
  · have hp := hin i hlt
    have e : q0.1.getD i 0 = q0.1.getD i s := by simp [List.getD, hlt]
    rw [← e] at hp
    refine ⟨hp, ?_⟩
    have hrl := (hV.v.row _ (getD_mem' (show (q0.1.getD i 0).toNat < N.length by omega))).1
    refine awp_upto (tyP_ok _) c7 2000 [2, 4, 5, 6, 7, 35, 36, 37] (k) (fun _ => True) (fun x => ⟨53, [(2, .fref [.pay (.rows N) z, .pay (.rows O) z']), (4, .pay (.ints .i64 []) true), (5, .int .i64 0), (6, .own 0), (7, .int .i64 i), (35, .pay (.ints .i64 (N.getD (q0.1.getD i 0).toNat [])) false), (36, .int .i64 k), (37, .int .i64 x)], [.arr (.ints .i64 (inn (dlN N) s i q0 x).1) ⟨3, false⟩]⟩) (by kernel_rfl) ?_ ?_ ?_
    · simp (config := {implicitDefEqProofs := false, maxSteps := 4000000}) (disch := omega) only [push_cast, c7, hrl, Nat.reduceAdd, Nat.reduceSub, Nat.reduceMul, Nat.reduceBEq, Int.reduceToNat, Int.reduceNeg, Int.reduceLE, Int.reduceLT, Int.reduceBEq, Int.reduceBNe, Int.reduceEq, Bool.not_true, Bool.not_false, eq_self, reduceCtorEq]
      rfl
    · trivial
    intro x hx _
    obtain ⟨hinv2, hle2⟩ := inn_inv hinv hlt x hx
    have hlen2 := state_len hV hs hinv2
    simp (config := {implicitDefEqProofs := false, maxSteps := 4000000}) (disch := omega) only [push_cast, c7, hrl, Nat.reduceAdd, Nat.reduceSub, Nat.reduceMul, Nat.reduceBEq, Int.reduceToNat, Int.reduceNeg, Int.reduceLE, Int.reduceLT, Int.reduceBEq, Int.reduceBNe, Int.reduceEq, Bool.not_true, Bool.not_false, eq_self, reduceCtorEq]
    refine ⟨fun hxk => ⟨hxk, ?_⟩, fun hxk => ?_⟩
    · refine lcallW_eq _ _ _ (f26 _ _ _ _ _ (by omega)) ?_
      simp (config := {implicitDefEqProofs := false, maxSteps := 4000000}) (disch := omega) only [push_cast, c7, Nat.reduceAdd, Nat.reduceSub, Nat.reduceMul, Nat.reduceBEq, Int.reduceToNat, Int.reduceNeg, Int.reduceLE, Int.reduceLT, Int.reduceBEq, Int.reduceBNe, Int.reduceEq, Bool.not_true, Bool.not_false, eq_self, reduceCtorEq]
      have hold := @inn_old _ _ (dlN N) s i x q0
      have hnew := @inn_new _ _ (dlN N) s i x q0
      have hpx : (inn (dlN N) s i q0 x).1.getD i s = q0.1.getD i 0 := by
        rw [(inn_more (i := i) hinv.len x).1.l1 i hlt, e]
      rw [hpx] at hold hnew
      have hdl : dlN N (q0.1.getD i 0) x = (N.getD (q0.1.getD i 0).toNat []).getD x 0 := by simp [dlN, nxG]
      rw [hdl] at hold hnew
      refine ⟨fun h => ⟨by omega, hxk, by rw [hnew h]⟩, fun h => ⟨hxk, by rw [hold h]⟩⟩
    · have hxc : x = k := by omega
      subst hxc
      have hb2 : inn (dlN N) s i q0 x = bfs (dlN N) s x (i + 1) := by
        rw [bfs, hq0, if_pos hlt]
      exact ⟨N.length - (i + 1), by omega, i + 1, by omega, rfl, by omega, by rw [hb2]⟩
  · have hfin : finN N k s = q0 := by
      have := bfs_stop (δ := dlN N) (s0 := s) (k := k) (i := i) (by rw [hq0]; omega) (N.length - i)
      rw [show i + (N.length - i) = N.length by omega, hq0] at this
      exact this
    refine lcallW_eq _ _ _ (f27 _ _ _ _ (by omega)) ?_
    rw [← hfin, sortL_fin hV hs]
    simp (config := {implicitDefEqProofs := false, maxSteps := 4000000}) (disch := omega) only [push_cast, c7, Nat.reduceAdd, Nat.reduceSub, Nat.reduceMul, Nat.reduceBEq, Int.reduceToNat, Int.reduceNeg, Int.reduceLE, Int.reduceLT, Int.reduceBEq, Int.reduceBNe, Int.reduceEq, Bool.not_true, Bool.not_false, eq_self, reduceCtorEq]
    exact .inr (.inr (.inr ⟨hv, hs, rfl, by rw [hk]⟩))
/- mizmaze/mizmazeref07.Word -/
def c13 : VCfg := ⟨⟨[], [], [], [0, 1, 4, 5, 8, 12, 27]⟩, [], [], []⟩
theorem f13 (k : Nat) (w : List Int) (z : Bool) (hl : w.length ≤ 4611686018427387904) :
    ACall Tryz.prog 13 [.int .i64 k, .pay (.ints .i64 w) z] (fun r objs => r = .bool (wordB k w) ∧ objs = []) := by
  refine acall_intro (tyP_ok _) c13 2000 [.tmp 4] Tryz.func13 rfl (by rfl) rfl (by kernel_rfl) ?_
  unfold Tryz.f13
  simp (config := {implicitDefEqProofs := false, maxSteps := 4000000}) (disch := omega) only [push_cast, c13, Nat.reduceAdd, Nat.reduceSub, Nat.reduceMul, Nat.reduceBEq, Int.reduceToNat, Int.reduceNeg, Int.reduceLE, Int.reduceLT, Int.reduceBEq, Int.reduceBNe, Int.reduceEq, Bool.not_true, Bool.not_false, eq_self, reduceCtorEq]
  refine ⟨fun h => by simp [wordB, show ¬ w.length ≤ 40000 by omega], fun h40 => ?_⟩
  refine awp_upto (tyP_ok _) c13 2000 [0, 1, 4, 5] (w.length) (fun i => ∀ j, j < i → 0 ≤ w.getD j 0 ∧ w.getD j 0 < k) (fun i => ⟨28, [(0, .int .i64 k), (1, .pay (.ints .i64 w) z), (4, .bool false), (5, .int .i64 i)], []⟩) (by kernel_rfl) ?_ ?_ ?_
  · simp (config := {implicitDefEqProofs := false, maxSteps := 4000000}) (disch := omega) only [push_cast, c13, Nat.reduceAdd, Nat.reduceSub, Nat.reduceMul, Nat.reduceBEq, Int.reduceToNat, Int.reduceNeg, Int.reduceLE, Int.reduceLT, Int.reduceBEq, Int.reduceBNe, Int.reduceEq, Bool.not_true, Bool.not_false, eq_self, reduceCtorEq]
  · exact fun j hj => by omega
  intro i hi hr
  simp (config := {implicitDefEqProofs := false, maxSteps := 4000000}) (disch := omega) only [push_cast, c13, Nat.reduceAdd, Nat.reduceSub, Nat.reduceMul, Nat.reduceBEq, Int.reduceToNat, Int.reduceNeg, Int.reduceLE, Int.reduceLT, Int.reduceBEq, Int.reduceBNe, Int.reduceEq, Bool.not_true, Bool.not_false, eq_self, reduceCtorEq]
  refine ⟨fun hlt => ⟨hlt, fun h => (wordB_false (getD_mem hlt) (.inl h)).symm, fun h0 => ⟨hlt, fun h => (wordB_false (getD_mem hlt) (.inr h)).symm, fun h => ⟨hlt, upto_succ hr ⟨h0, h⟩⟩⟩⟩, fun hge => (wordB_iff.2 ⟨by omega, fun x hx => ?_⟩).symm⟩
  obtain ⟨j, hj, rfl⟩ := mem_of_getD (d := 0) hx
  exact hr j (by omega)
/- mizmaze/mizmazeref07.Run -/
def c15 : VCfg := ⟨⟨[], [], [8], [0, 1, 2, 3, 6, 7, 8, 9, 13]⟩, [(5, (.op 0 .loose (.op 1 .strict (.op 2 .strict (.op 3 .strict (.op 4 .strict (.op 5 .strict (.op 6 .strict (.op 7 .strict (.op 8 .strict (.op 9 .strict (.op 10 .strict (.op 11 .strict (.op 12 .eff (.op 13 .eff (.op 14 .loose .nil)))))))))))))))), (6, (.op 0 .loose (.op 1 .loose (.op 2 .loose (.op 3 .loose (.op 4 .loose (.op 5 .loose (.op 6 .loose (.op 7 .loose (.op 8 .loose (.op 9 .loose (.op 10 .loose (.op 11 .loose .nil)))))))))))))], [], []⟩
set_option maxRecDepth 100000 in
theorem f15 (N O : List (List Int)) (z z' u : Bool) (s : Int) (w : List Int) (k : Nat) (hV : VM N O k) (hs : 0 ≤ s ∧ s < N.length) (hw : ∀ x ∈ w, 0 ≤ x ∧ x < k) (hl : w.length ≤ 1000000) :
    ACall Tryz.prog 15 [.agg [.pay (.rows (N)) (z), .pay (.rows (O)) (z')], .int .i64 s, .pay (.ints .i64 w) u] (fun r objs => ∃ nz, r = .tup [.pay (.ints .i64 (outsG N O s w)) nz, .int .i64 (leadG N s w)] ∧ objs = []) := by
  suffices h : ACall Tryz.prog 15 [.agg [.pay (.rows (N)) (z), .pay (.rows (O)) (z')], .int .i64 s, .pay (.ints .i64 w) u] (fun r objs => r = .tup [.own 0, .int .i64 (leadG N s w)] ∧ objs = [.arr (.ints .i64 (outsG N O s w)) ⟨3, true⟩]) by
    refine h.frz ?_
    rintro r objs ⟨rfl, rfl⟩
    exact ⟨[0], _, 1, rfl, _, rfl, rfl⟩
  refine acall_intro (tyP_ok _) c15 2000 [.tmp 6, .tmp 7] Tryz.func15 rfl (by rfl) rfl (by kernel_rfl) ?_
  unfold Tryz.f15
  simp (config := {implicitDefEqProofs := false, maxSteps := 4000000}) (disch := omega) only [push_cast, c15, Nat.reduceAdd, Nat.reduceSub, Nat.reduceMul, Nat.reduceBEq, Int.reduceToNat, Int.reduceNeg, Int.reduceLE, Int.reduceLT, Int.reduceBEq, Int.reduceBNe, Int.reduceEq, Bool.not_true, Bool.not_false, eq_self, reduceCtorEq]
  refine awp_upd (tyP_ok _) c15 2000 [1, 2, 3, 6, 7, 8, 9] (w.length) (fun _ => True) (fun i => [(1, .int .i64 (leadG N s (w.take i))), (9, .int .i64 i)]) (fun i => [(0, .arr (.ints .i64 (outsG N O s (w.take i))) ⟨3, true⟩)]) (by kernel_rfl) (by rw [List.take_zero]; rfl) ?_ ?_
  · trivial
  intro i hi _
  simp (config := {implicitDefEqProofs := false, maxSteps := 4000000}) (disch := omega) only [push_cast, c15, Nat.reduceAdd, Nat.reduceSub, Nat.reduceMul, Nat.reduceBEq, Int.reduceToNat, Int.reduceNeg, Int.reduceLE, Int.reduceLT, Int.reduceBEq, Int.reduceBNe, Int.reduceEq, Bool.not_true, Bool.not_false, eq_self, reduceCtorEq]
  refine ⟨fun hlt => ?_, fun hge => ⟨by rw [List.take_of_length_le hge], by rw [List.take_of_length_le hge]⟩⟩
  have h1 := hV.v.lead (w.take i) hs.1 hs.2 fun c hc => hw c (List.mem_of_mem_take hc)
  have h2 := hw _ (getD_mem hlt)
  have h3 := (hV.v.row _ (getD_mem' (show (leadG N s (w.take i)).toNat < N.length by omega))).1
  have hol := hV.ol
  have h4 := (hV.orow _ (getD_mem' (show (leadG N s (w.take i)).toNat < O.length by omega))).1
  have h5 := outsG_len N O (w.take i) s
  rw [List.length_take] at h5
  refine ⟨⟨h1.1, by omega⟩, hlt, ⟨h2.1, by omega⟩, by omega, h1, hlt, ⟨h2.1, by omega⟩, hlt, ?_, (outsG_take N O s w i hlt).symm⟩
  rw [← take_succI hlt, leadG_snoc]
end Go.AM
end

/-! text Ue16 -/
section
namespace Go.AM
open Go Go.Proofs
/- mizmaze/mizmazeref07.Reached -/
def c12 : VCfg := ⟨⟨[], [], [9], [0, 1, 2, 4, 5, 6, 7, 8, 9, 10, 18, 23, 39, 53, 67, 73]⟩, [], [], []⟩
set_option maxHeartbeats 8000000 in
set_option maxRecDepth 100000 in
theorem f12 (N O : List (List Int)) (z z' : Bool) (s : Int) (k : Nat) (hV : VM N O k) (hs : 0 ≤ s ∧ s < N.length) :
    ACall Tryz.prog 12 [.agg [.pay (.rows (N)) (z), .pay (.rows (O)) (z')], .int .i64 s] (fun r objs => ∃ nz, r = .pay (.ints .i64 (reachL N k s)) nz ∧ objs = []) := by
  suffices h : ACall Tryz.prog 12 [.agg [.pay (.rows (N)) (z), .pay (.rows (O)) (z')], .int .i64 s] (fun r objs => r = .own 0 ∧ objs = [.arr (.ints .i64 (reachL N k s)) ⟨3, true⟩]) by
    refine h.frz ?_
    rintro r objs ⟨rfl, rfl⟩
    exact ⟨[0], _, 1, rfl, _, rfl, rfl⟩
  have hn := hV.v.n2
  have hk2 := hV.v.k2
  refine acall_intro (tyP_ok _) c12 2000 [.tmp 4] Tryz.func12 rfl (by rfl) rfl (by kernel_rfl) ?_
  unfold Tryz.f12
  simp (config := {implicitDefEqProofs := false, maxSteps := 4000000}) (disch := omega) only [push_cast, c12, Nat.reduceAdd, Nat.reduceSub, Nat.reduceMul, Nat.reduceBEq, Int.reduceToNat, Int.reduceNeg, Int.reduceLE, Int.reduceLT, Int.reduceBEq, Int.reduceBNe, Int.reduceEq, Bool.not_true, Bool.not_false, eq_self, reduceCtorEq]
  refine ⟨⟨by omega, by omega⟩, ⟨hs.1, by rw [List.length_replicate]; exact hs.2⟩, ?_⟩
  refine awp_loop (tyP_ok _) c12 2000 [2, 4, 5, 6] (fun n g st => ∃ (B : List Bool) (m : Bool), g = (false, 0) ∧ B.length = N.length ∧ B.getD s.toNat false = true ∧ (∀ i, B.getD i false = true → (i : Int) ∈ (finN N k s).1) ∧ (m = false → ∀ j, j < N.length → B.getD j false = true → ∀ y, y < k → B.getD (nxG N j y).toNat false = true) ∧ n = (if m then N.length + 1 - marks B else 0) ∧ st = ⟨79, [(2, .fref [.pay (.rows N) z, .pay (.rows O) z']), (4, .pay (.ints .i64 []) true), (5, .own 0), (6, .bool m)], [.arr (.bools B) ⟨4, false⟩]⟩) (N.length + 1 - marks ((List.replicate N.length false).set s.toNat true)) (by kernel_rfl) ?_ ?_
  · simp (config := {implicitDefEqProofs := false, maxSteps := 4000000}) (disch := omega) only [push_cast, c12, Nat.reduceAdd, Nat.reduceSub, Nat.reduceMul, Nat.reduceBEq, Int.reduceToNat, Int.reduceNeg, Int.reduceLE, Int.reduceLT, Int.reduceBEq, Int.reduceBNe, Int.reduceEq, Bool.not_true, Bool.not_false, eq_self, reduceCtorEq]
    refine ⟨(List.replicate N.length false).set s.toNat true, true, by simp, ?_, fun i hi => ?_, fun h => (by cases h), rfl, rfl, rfl⟩
    · rw [getD_setB, if_pos ⟨rfl, by rw [List.length_replicate]; omega⟩]
    · rw [getD_setB] at hi
      by_cases e : s.toNat = i
      · rw [show (i : Int) = s by omega]; exact finN_s hV hs
      · simp [e, List.getD, List.getElem?_replicate] at hi
        split at hi <;> simp at hi
  rintro n g st ⟨B, m, rfl, hBl, hBs, hB, hcl, rfl, rfl⟩
  simp (config := {implicitDefEqProofs := false, maxSteps := 4000000}) (disch := omega) only [push_cast, c12, Nat.reduceAdd, Nat.reduceSub, Nat.reduceMul, Nat.reduceBEq, Int.reduceToNat, Int.reduceNeg, Int.reduceLE, Int.reduceLT, Int.reduceBEq, Int.reduceBNe, Int.reduceEq, Bool.not_true, Bool.not_false, eq_self, reduceCtorEq]
  have hmk := marks_le B
  refine ⟨fun hm => ?_, fun hm => ?_⟩
  · subst hm
    refine awp_upto (tyP_ok _) c12 2000 [2, 4, 5, 6, 7] (N.length) (fun _ => True) (fun t => ⟨79, [(2, .fref [.pay (.rows N) z, .pay (.rows O) z']), (4, .pay (.ints .i64 []) true), (5, .own 0), (6, .bool (pasM N k B t).2), (7, .int .i64 t)], [.arr (.bools (pasM N k B t).1) ⟨4, false⟩]⟩) (by kernel_rfl) ?_ ?_ ?_
    · simp (config := {implicitDefEqProofs := false, maxSteps := 4000000}) (disch := omega) only [push_cast, c12, Nat.reduceAdd, Nat.reduceSub, Nat.reduceMul, Nat.reduceBEq, Int.reduceToNat, Int.reduceNeg, Int.reduceLE, Int.reduceLT, Int.reduceBEq, Int.reduceBNe, Int.reduceEq, Bool.not_true, Bool.not_false, eq_self, reduceCtorEq]
      exact ⟨rfl, rfl⟩
    · trivial
    intro t ht _
    have hpl := pasM_len (N := N) (k := k) B t
    simp (config := {implicitDefEqProofs := false, maxSteps := 4000000}) (disch := omega) only [push_cast, c12, Nat.reduceAdd, Nat.reduceSub, Nat.reduceMul, Nat.reduceBEq, Int.reduceToNat, Int.reduceNeg, Int.reduceLE, Int.reduceLT, Int.reduceBEq, Int.reduceBNe, Int.reduceEq, Bool.not_true, Bool.not_false, eq_self, reduceCtorEq]
    refine ⟨fun hlt => ?_, fun hge => ?_⟩
    · have hrl := (hV.v.row _ (getD_mem' hlt)).1
      have hst : pasM N k B (t + 1) = if (pasM N k B t).1.getD t false = true then rowM2 N t (pasM N k B t) k else pasM N k B t := rfl
      generalize hq : pasM N k B t = q at *
      refine awp_upto (tyP_ok _) c12 2000 [2, 4, 5, 6, 7, 8] (k) (fun x => 0 < x → q.1.getD t false = true) (fun x => ⟨79, [(2, .fref [.pay (.rows N) z, .pay (.rows O) z']), (4, .pay (.ints .i64 []) true), (5, .own 0), (6, .bool (rowM2 N t q x).2), (7, .int .i64 t), (8, .int .i64 x)], [.arr (.bools (rowM2 N t q x).1) ⟨4, false⟩]⟩) (by kernel_rfl) ?_ ?_ ?_
      · simp (config := {implicitDefEqProofs := false, maxSteps := 4000000}) (disch := omega) only [push_cast, c12, Nat.reduceAdd, Nat.reduceSub, Nat.reduceMul, Nat.reduceBEq, Int.reduceToNat, Int.reduceNeg, Int.reduceLE, Int.reduceLT, Int.reduceBEq, Int.reduceBNe, Int.reduceEq, Bool.not_true, Bool.not_false, eq_self, reduceCtorEq]
        exact ⟨rfl, rfl⟩
      · exact fun h => by omega
      intro x hx hb
      have hrm := rowM2_len (N := N) t q x
      simp (config := {implicitDefEqProofs := false, maxSteps := 4000000}) (disch := omega) only [push_cast, c12, hrl, Nat.reduceAdd, Nat.reduceSub, Nat.reduceMul, Nat.reduceBEq, Int.reduceToNat, Int.reduceNeg, Int.reduceLE, Int.reduceLT, Int.reduceBEq, Int.reduceBNe, Int.reduceEq, Bool.not_true, Bool.not_false, eq_self, reduceCtorEq]
      have hk1 := hV.v.k1
      have hst2 : rowM2 N t q (x + 1) = if (rowM2 N t q x).1.getD ((N.getD t []).getD x 0).toNat false = true then rowM2 N t q x else ((rowM2 N t q x).1.set ((N.getD t []).getD x 0).toNat true, true) := by
        have e : nxG N t x = (N.getD t []).getD x 0 := by simp [nxG]
        rw [← e]; rfl
      have hup : q.1.getD t false = true → (rowM2 N t q x).1.getD t false = true := rowM2_up t q x t
      refine ⟨hlt, fun hxk => ⟨by omega, fun hin => ?_, fun hin => ?_⟩, fun hxk => ?_⟩
      · have hqt : q.1.getD t false = true := by
          rcases Nat.eq_zero_or_pos x with rfl | h
          · exact hin
          · exact hb h
        have hnx := hV.nx (s := (t : Int)) (c := x) (by omega) (by omega) hxk
        rw [show nxG N t x = (N.getD t []).getD x 0 by simp [nxG]] at hnx
        refine ⟨hlt, hxk, ⟨hnx.1, by omega⟩, fun hf => ⟨hlt, hxk, ⟨hnx.1, by omega⟩, hxk, fun _ => hqt, ?_⟩, fun hf => ⟨hxk, fun _ => hqt, ?_⟩⟩
        · rw [hst2, if_neg (by rw [hf]; decide)]; exact ⟨rfl, rfl⟩
        · rw [hst2, if_pos hf]; exact ⟨rfl, rfl⟩
      · have hx0 : x = 0 := by
          rcases Nat.eq_zero_or_pos x with h | h
          · exact h
          · rw [hup (hb h)] at hin; cases hin
        subst hx0
        have hin2 : q.1.getD t false = false := hin
        rw [hst, if_neg (by rw [hin2]; decide)]
        exact ⟨hlt, rfl, rfl⟩
      · have hxe : x = k := by omega
        rw [hst, if_pos (hb (by omega)), hxe]
        exact ⟨hlt, rfl, rfl⟩
    · have hte : t = N.length := by omega
      subst hte
      have hcn := pasM_cnt hV B hBl N.length (Nat.le_refl _)
      have hno := pasM_no (N := N) (k := k) B N.length
      have hok := pasM_ok hV hs B hB N.length
      have hml := marks_le (pasM N k B N.length).1
      refine ⟨if (pasM N k B N.length).2 = true then N.length + 1 - marks (pasM N k B N.length).1 else 0, ?_, (pasM N k B N.length).1, (pasM N k B N.length).2, by omega, ?_, hok, fun hf => ?_, rfl, rfl, rfl⟩
      · rw [if_pos trivial]
        split
        · rename_i h
          have := hcn.2 h; omega
        · omega
      · exact pasM_up B hBs N.length
      · obtain ⟨h1, h2⟩ := hno hf
        rw [h1]; exact h2
  · subst hm
    refine awp_upto (tyP_ok _) c12 2000 [4, 5, 9, 10] (N.length) (fun _ => True) (fun i => ⟨79, [(4, .pay (.ints .i64 []) true), (5, .own 0), (9, .own 1), (10, .int .i64 i)], [.arr (.bools B) ⟨4, false⟩, .arr (.ints .i64 (fromTo i fun t => B.getD t.toNat false)) ⟨3, true⟩]⟩) (by kernel_rfl) ?_ ?_ ?_
    · simp (config := {implicitDefEqProofs := false, maxSteps := 4000000}) (disch := omega) only [push_cast, c12, Nat.reduceAdd, Nat.reduceSub, Nat.reduceMul, Nat.reduceBEq, Int.reduceToNat, Int.reduceNeg, Int.reduceLE, Int.reduceLT, Int.reduceBEq, Int.reduceBNe, Int.reduceEq, Bool.not_true, Bool.not_false, eq_self, reduceCtorEq]
      rfl
    · trivial
    intro i hi _
    simp (config := {implicitDefEqProofs := false, maxSteps := 4000000}) (disch := omega) only [push_cast, c12, Nat.reduceAdd, Nat.reduceSub, Nat.reduceMul, Nat.reduceBEq, Int.reduceToNat, Int.reduceNeg, Int.reduceLE, Int.reduceLT, Int.reduceBEq, Int.reduceBNe, Int.reduceEq, Bool.not_true, Bool.not_false, eq_self, reduceCtorEq]
    have hfl := fromTo_len i fun t => B.getD t.toNat false
    have hsu := fromTo_succ i fun t => B.getD t.toNat false
    simp only [Int.toNat_natCast] at hsu
    refine ⟨fun hlt => ⟨hlt, fun h => ⟨by omega, by omega, by rw [hsu, if_pos h]⟩, fun h => ⟨by omega, by rw [hsu, if_neg (by rw [h]; decide), List.append_nil]⟩⟩, fun hge => ?_⟩
    have hie : i = N.length := by omega
    subst hie
    refine fromTo_congr fun t h0 h1 => ?_
    have := marks_done hV hs hBs hB (hcl rfl) (t := t.toNat)
    rw [this, show ((t.toNat : Nat) : Int) = t by omega]
end Go.AM
end

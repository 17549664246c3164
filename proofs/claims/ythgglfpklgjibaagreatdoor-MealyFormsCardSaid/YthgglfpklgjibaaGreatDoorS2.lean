/-
  Contracts of Told, Apart, the walk, Outs and Run; conditions in each statement.
-/
import Derived.Test.YthgglfpklgjibaaGreatDoorS1
import Derived.Test.YthgglfpklgjibaaGreatDoorP2
set_option linter.unusedVariables false
set_option linter.unusedSimpArgs false
set_option linter.unusedSectionVars false

/-! text Ue3 -/
section
namespace Go.AM
open Go Go.Proofs
def revS (l : List Int) (i : Nat) : List Int := (List.range l.length).map fun p => if p < i ∨ l.length - 1 - p < i then l.getD (l.length - 1 - p) 0 else l.getD p 0
theorem revS_len (l : List Int) (i : Nat) : (revS l i).length = l.length := by simp [revS]
theorem revS_get (l : List Int) (i p : Nat) (h : p < l.length) : (revS l i).getD p 0 = if p < i ∨ l.length - 1 - p < i then l.getD (l.length - 1 - p) 0 else l.getD p 0 := by
  simp [revS, List.getD, h]
theorem revS_zero (l : List Int) : revS l 0 = l := ints_eq' (revS_len l 0) fun j hj => by
  rw [revS_len] at hj
  rw [revS_get l 0 j hj, if_neg (by omega)]
theorem revS_step (l : List Int) (i : Nat) (h : i < l.length / 2) : ((revS l i).set i ((revS l i).getD (l.length - 1 - i) 0)).set (l.length - 1 - i) ((revS l i).getD i 0) = revS l (i + 1) := ints_eq' (by simp [revS_len]) fun p hp => by
  simp only [List.length_set, revS_len] at hp
  rw [revS_get l (i + 1) p hp]
  simp only [List.getD_eq_getElem?_getD, List.getElem?_set]
  simp only [← List.getD_eq_getElem?_getD, List.length_set, revS_len]
  by_cases h1 : l.length - 1 - i = p
  · subst h1
    rw [if_pos rfl, if_pos hp]
    simp only [Option.getD_some]
    rw [revS_get l i i (by omega), if_neg (by omega), if_pos (by omega)]
    congr 1; omega
  · rw [if_neg h1]
    by_cases h2 : i = p
    · subst h2
      rw [if_pos rfl, if_pos (by omega)]
      simp only [Option.getD_some]
      rw [revS_get l i _ (by omega), if_neg (by omega), if_pos (by omega)]
    · rw [if_neg h2, ← List.getD_eq_getElem?_getD, revS_get l i p hp]
      by_cases h3 : p < i ∨ l.length - 1 - p < i
      · rw [if_pos h3, if_pos (by omega)]
      · rw [if_neg h3, if_neg (by omega)]
theorem revS_end (l : List Int) (i : Nat) (h : l.length ≤ 2 * i + 1) : revS l i = l.reverse := ints_eq' (by simp [revS_len]) fun p hp => by
  rw [revS_len] at hp
  rw [revS_get l i p hp]
  have e : l.reverse.getD p 0 = l.getD (l.length - 1 - p) 0 := by simp [List.getD, List.getElem?_reverse hp]
  rw [e]
  split
  · rfl
  · congr 1; omega
/- slices.Reverse[[]int,int] -/
def c86 : VCfg := ⟨⟨[], [], [], [0, 2, 3, 9]⟩, [(3, (.op 0 .loose (.op 1 .loose (.op 2 .strict (.op 3 .strict (.op 4 .loose (.op 5 .loose (.op 6 .loose (.op 7 .loose (.op 8 .strict (.op 9 .strict (.op 10 .strict (.op 11 .loose (.op 12 .loose (.op 13 .eff (.op 14 .loose (.op 15 .eff .nil)))))))))))))))))], [], []⟩
theorem f86 (y : Yc) (g : Gh) (l : List Int) (ai : AI) (hl : l.length ≤ 4611686018427387904) :
    GCall Tryz.prog y 86 g [.own 0] [.arr (.ints .i64 l) ai] (fun g' r A O => g' = g ∧ r = .tup [] ∧ A = [.own 0] ∧ O = [.arr (.ints .i64 l.reverse) ai]) := by
  refine gcall_intro (tyP_ok _) c86 2000 [] [0] Tryz.func86 rfl (by rfl) rfl (by rfl) (by kernel_rfl) (by kernel_rfl) ?_
  unfold Tryz.f86
  simp (config := {implicitDefEqProofs := false, maxSteps := 4000000}) (disch := omega) only [push_cast, c86, Nat.reduceAdd, Nat.reduceSub, Nat.reduceMul, Nat.reduceBEq, Int.reduceToNat, Int.reduceNeg, Int.reduceLE, Int.reduceLT, Int.reduceBEq, Int.reduceBNe, Int.reduceEq, Bool.not_true, Bool.not_false, eq_self, reduceCtorEq]
  refine awp_upto (tyP_ok _) c86 2000 [0, 2, 3] (l.length / 2) (fun _ => True) (fun i => ⟨28, [(0, .own 0), (2, .int .i64 i), (3, .int .i64 ((l.length : Int) - 1 - i))], [.arr (.ints .i64 (revS l i)) ai]⟩) (by kernel_rfl) ?_ ?_ ?_
  · simp (config := {implicitDefEqProofs := false, maxSteps := 4000000}) (disch := omega) only [push_cast, c86, Nat.reduceAdd, Nat.reduceSub, Nat.reduceMul, Nat.reduceBEq, Int.reduceToNat, Int.reduceNeg, Int.reduceLE, Int.reduceLT, Int.reduceBEq, Int.reduceBNe, Int.reduceEq, Bool.not_true, Bool.not_false, eq_self, reduceCtorEq]
    rw [revS_zero]
    exact ⟨by omega, rfl⟩
  · trivial
  intro i hi _
  simp (config := {implicitDefEqProofs := false, maxSteps := 4000000}) (disch := omega) only [push_cast, c86, Nat.reduceAdd, Nat.reduceSub, Nat.reduceMul, Nat.reduceBEq, Int.reduceToNat, Int.reduceNeg, Int.reduceLE, Int.reduceLT, Int.reduceBEq, Int.reduceBNe, Int.reduceEq, Bool.not_true, Bool.not_false, eq_self, reduceCtorEq]
  refine ⟨fun h => ?_, fun h => revS_end l i (by omega)⟩
  have e1 : ((l.length : Int) - 1 - (i : Int)).toNat = l.length - 1 - i := by omega
  rw [e1, List.length_set, revS_len, revS_step l i (by omega)]
  exact ⟨by omega, by omega, by omega, by omega, by omega, by omega, rfl⟩
/- mizmaze/mealy.word -/
def c60 : VCfg := ⟨⟨[], [], [], [0, 1, 2, 6, 7, 15]⟩, [], [86], [30]⟩
set_option maxRecDepth 100000 in
theorem f60 (q : List (Int × Int) × Stp) (d : Int × Int) (i : Nat) (c : Int) (z : Bool) (hi : i < q.1.length) (hq : q.2.length = q.1.length) (ht : Tree q.2) (hl : q.1.length ≤ 65536) :
    ACall Tryz.prog 60 [.pay (.gen 4 (wayL q d)) z, .int .i64 i, .int .i64 c] (fun r objs => r = .own 0 ∧ objs = [.arr (.ints .i64 (wordOf q.2 i ++ [c])) ⟨3, false⟩]) := by
  refine acall_intro (tyP_ok _) c60 2000 [.tmp 6] Tryz.func60 rfl (by rfl) rfl (by kernel_rfl) ?_
  unfold Tryz.f60
  simp (config := {implicitDefEqProofs := false, maxSteps := 4000000}) (disch := omega) only [push_cast, c60, Nat.reduceAdd, Nat.reduceSub, Nat.reduceMul, Nat.reduceBEq, Int.reduceToNat, Int.reduceNeg, Int.reduceLE, Int.reduceLT, Int.reduceBEq, Int.reduceBNe, Int.reduceEq, Bool.not_true, Bool.not_false, eq_self, reduceCtorEq]
  refine awp_loop (tyP_ok _) c60 2000 [0, 1, 6, 7] (fun n g st => g = (false, 0) ∧ ∃ (j : Nat) (o : List Int), j < q.1.length ∧ n = j ∧ o ++ upW q.2 (j + 1) j = c :: upW q.2 (i + 1) i ∧ o.length + j ≤ i + 1 ∧ st = ⟨32, [(0, .pay (.gen 4 (wayL q d)) z), (1, .int .i64 j), (6, .pay (.ints .i64 []) true), (7, .own 0)], [.arr (.ints .i64 o) ⟨3, false⟩]⟩) i (by kernel_rfl) ⟨rfl, i, [c], hi, rfl, rfl, by simp; omega, rfl⟩ ?_
  rintro j g st ⟨rfl, j', o, hj, hjn, ho, hoj, rfl⟩
  obtain rfl : j = j' := hjn
  have e := wayL_get (d := d) hj
  simp (config := {implicitDefEqProofs := false, maxSteps := 4000000}) (disch := omega) only [push_cast, c60, e, wayL_len, Nat.reduceAdd, Nat.reduceSub, Nat.reduceMul, Nat.reduceBEq, Int.reduceToNat, Int.reduceNeg, Int.reduceLE, Int.reduceLT, Int.reduceBEq, Int.reduceBNe, Int.reduceEq, Bool.not_true, Bool.not_false, eq_self, reduceCtorEq]
  refine ⟨hj, fun hge => ?_, fun hlt => ?_⟩
  · rcases ht j (by omega) with h1 | ⟨p, x, h1, h2⟩
    · omega
    rw [h1]
    refine ⟨hj, by omega, hj, p, h2, p, _, by omega, rfl, ?_, ?_, rfl, rfl⟩
    · rw [← ho]
      have e2 : upW q.2 (j + 1) j = (x : Int) :: upW q.2 j p := by
        simp only [upW]
        rw [h1]
        have h3 : ¬ ((p : Int) < 0) := by omega
        simp only [h3, if_false, Int.toNat_natCast]
      rw [e2, upW_fuel ht j (p + 1) p h2 (by omega) (by omega)]
      simp
    · simp; omega
  · refine lcallW_eq _ _ _ (f86 _ _ o _ (by omega)) ?_
    simp (config := {implicitDefEqProofs := false, maxSteps := 4000000}) (disch := omega) only [push_cast, c60, Nat.reduceAdd, Nat.reduceSub, Nat.reduceMul, Nat.reduceBEq, Int.reduceToNat, Int.reduceNeg, Int.reduceLE, Int.reduceLT, Int.reduceBEq, Int.reduceBNe, Int.reduceEq, Bool.not_true, Bool.not_false, eq_self, reduceCtorEq]
    have e2 : upW q.2 (j + 1) j = [] := by simp only [upW]; rw [if_pos hlt]
    rw [e2, List.append_nil] at ho
    rw [ho, List.reverse_cons]; rfl
/- mizmaze/mealy.Told -/
def c39 : VCfg := ⟨⟨[], [13], [], [0, 1, 2, 3, 4, 6, 8, 9, 10, 11, 12, 13, 14, 15, 16, 30, 44, 45, 46, 66, 78, 79, 80, 104]⟩, [(10, (.op 0 .loose (.op 1 .loose (.op 2 .loose (.op 3 .loose (.op 4 .loose (.op 5 .loose (.op 6 .loose (.op 7 .loose (.op 8 .loose (.op 9 .loose (.op 10 .loose (.op 11 .loose (.op 12 .loose (.op 13 .loose (.op 14 .loose (.op 15 .loose (.op 16 .loose (.op 17 .loose (.op 18 .loose .nil)))))))))))))))))))), (16, (.op 0 .loose (.op 1 .loose (.op 2 .loose (.op 3 .loose (.op 4 .loose (.op 5 .loose (.op 6 .loose (.op 7 .loose (.op 8 .loose (.op 9 .loose (.op 10 .loose (.op 11 .loose (.op 12 .loose (.op 13 .loose (.op 14 .loose (.op 15 .loose (.op 16 .loose (.op 17 .loose (.op 18 .loose (.op 19 .eff (.op 20 .eff .nil))))))))))))))))))))))], [], []⟩
def O39 (q : List (Int × Int) × Stp) (d : Int × Int) : List AObj := [.arr (.gen 4 (wayL q d)) ⟨96, false⟩, .mapB .arr (mapP q.1)]
def S39 (N O M Q : List (List Int)) (z z' y y' : Bool) (d : Int × Int) (q : List (Int × Int) × Stp) (i : Nat) : St :=
  ⟨115, [(4, .fref [.pay (.rows N) z, .pay (.rows O) z']), (6, .fref [.pay (.rows M) y, .pay (.rows Q) y']), (8, .pay (.ints .i64 []) true), (9, .bool false), (10, .own 0), (11, .mapr 1), (12, .int .i64 i)], O39 q d⟩
def R39 (N O M Q : List (List Int)) (z z' y y' : Bool) (d : Int × Int) (q : List (Int × Int) × Stp) (i : Nat) (p : Int × Int) (t1 t2 k c : Nat) : St :=
  ⟨115, [(4, .fref [.pay (.rows N) z, .pay (.rows O) z']), (6, .fref [.pay (.rows M) y, .pay (.rows Q) y']), (8, .pay (.ints .i64 []) true), (9, .bool false), (10, .own 0), (11, .mapr 1), (12, .int .i64 i), (13, .ref 2 0), (t1, .int .i64 k), (t2, .int .i64 c)], O39 q d ++ [.arr (.ints .i64 [p.1, p.2]) ⟨94, false⟩]⟩
set_option maxHeartbeats 4000000 in
set_option maxRecDepth 100000 in
theorem f39 (N O M Q : List (List Int)) (z z' y y' : Bool) (a b : Int) (k : Nat) (hN : VM N O k) (hM : VM M Q k) (ha : 0 ≤ a ∧ a < N.length) (hb : 0 ≤ b ∧ b < M.length) :
    ACall Tryz.prog 39 [.agg [.pay (.rows (N)) (z), .pay (.rows (O)) (z')], .int .i64 a, .agg [.pay (.rows (M)) (y), .pay (.rows (Q)) (y')], .int .i64 b] (fun r objs => ∃ w ok nz, TellR N O M Q a b k w ok ∧ r = .tup [.pay (.ints .i64 w) nz, .bool ok] ∧ objs = []) := by
  suffices h : ACall Tryz.prog 39 [.agg [.pay (.rows (N)) (z), .pay (.rows (O)) (z')], .int .i64 a, .agg [.pay (.rows (M)) (y), .pay (.rows (Q)) (y')], .int .i64 b] (fun r objs => (∃ w, TellR N O M Q a b k w true ∧ r = .tup [.own 0, .bool true] ∧ objs = [.arr (.ints .i64 w) ⟨3, false⟩]) ∨ (TellR N O M Q a b k [] false ∧ r = .tup [.pay (.ints .i64 []) true, .bool false] ∧ objs = [])) by
    refine h.frz ?_
    rintro r objs (⟨w, h1, rfl, rfl⟩ | ⟨h1, rfl, rfl⟩)
    · exact ⟨[0], _, 1, rfl, w, true, _, h1, rfl, rfl⟩
    · exact ⟨[], _, 0, rfl, [], false, _, h1, rfl, rfl⟩
  have hn := hN.v.n2
  have hm := hM.v.n2
  have hk2 := hN.v.k2
  have hnm : N.length * M.length ≤ 3600 := Nat.mul_le_mul hn hm
  refine acall_intro (tyP_ok _) c39 2000 [.tmp 8, .tmp 9] Tryz.func39 rfl (by rfl) rfl (by kernel_rfl) ?_
  unfold Tryz.f39
  simp (config := {implicitDefEqProofs := false, maxSteps := 4000000}) (disch := omega) only [push_cast, c39, Nat.reduceAdd, Nat.reduceSub, Nat.reduceMul, Nat.reduceBEq, Int.reduceToNat, Int.reduceNeg, Int.reduceLE, Int.reduceLT, Int.reduceBEq, Int.reduceBNe, Int.reduceEq, Bool.not_true, Bool.not_false, eq_self, reduceCtorEq]
  refine ⟨fun x hx => (by cases hx), ?_⟩
  refine awp_loop (tyP_ok _) c39 2000 [4, 6, 8, 9, 10, 11, 12] (fun n g st => ∃ i : Nat, g = (false, 0) ∧ i ≤ N.length * M.length ∧ (∀ j c, j < i → j < (bfs (dltP N M) (a, b) k i).1.length → c < k → ¬ difP O Q ((bfs (dltP N M) (a, b) k i).1.getD j (a, b)) c) ∧ n = N.length * M.length - i ∧ st = S39 N O M Q z z' y y' (a, b) (bfs (dltP N M) (a, b) k i) i) (N.length * M.length) (by kernel_rfl) ?_ ?_
  · simp (config := {implicitDefEqProofs := false, maxSteps := 4000000}) (disch := omega) only [push_cast, c39, S39, O39, Nat.reduceAdd, Nat.reduceSub, Nat.reduceMul, Nat.reduceBEq, Int.reduceToNat, Int.reduceNeg, Int.reduceLE, Int.reduceLT, Int.reduceBEq, Int.reduceBNe, Int.reduceEq, Bool.not_true, Bool.not_false, eq_self, reduceCtorEq]
    refine ⟨0, Nat.zero_le _, fun j c h => by omega, rfl, ?_⟩
    simp [bfs, wayL, wayC, mapP, mputK, mfindK, List.range_succ]
  rintro n g st ⟨i, rfl, hi, hnd, rfl, rfl⟩
  have hinv := bfs_inv (δ := dltP N M) (s0 := (a, b)) (k := k) i
  have hbd := pair_len hN hM ha hb hinv
  have hin := pair_in hN hM ha hb hinv
  have hmore : More (a, b) (bfs (dltP N M) (a, b) k i) (finP N M a b k) := by
    have := bfs_more (δ := dltP N M) (s0 := (a, b)) (k := k) (i := i) (N.length * M.length - i)
    rwa [show i + (N.length * M.length - i) = N.length * M.length by omega] at this
  generalize hq0 : bfs (dltP N M) (a, b) k i = q0 at *
  simp (config := {implicitDefEqProofs := false, maxSteps := 4000000}) (disch := omega) only [push_cast, c39, S39, O39, wayL_len, Nat.reduceAdd, Nat.reduceSub, Nat.reduceMul, Nat.reduceBEq, Int.reduceToNat, Int.reduceNeg, Int.reduceLE, Int.reduceLT, Int.reduceBEq, Int.reduceBNe, Int.reduceEq, Bool.not_true, Bool.not_false, eq_self, reduceCtorEq]
  refine ⟨fun hlt => ⟨hlt, ?_⟩, fun hge => ?_⟩
  · have e := wayL_get (d := (a, b)) hlt
    have hin1 := hin i hlt
    obtain ⟨⟨hp1, hp2⟩, hp3, hp4⟩ := hin1
    have hol := hN.ol
    have hql := hM.ol
    generalize hp : q0.1.getD i (a, b) = p at *
    have ho1 : (O.getD p.1.toNat []).length = k := (hN.orow _ (getD_mem' (by omega))).1
    have ho2 : (Q.getD p.2.toNat []).length = k := (hM.orow _ (getD_mem' (by omega))).1
    simp (config := {implicitDefEqProofs := false, maxSteps := 4000000}) (disch := omega) only [push_cast, c39, e, Nat.reduceAdd, Nat.reduceSub, Nat.reduceMul, Nat.reduceBEq, Int.reduceToNat, Int.reduceNeg, Int.reduceLE, Int.reduceLT, Int.reduceBEq, Int.reduceBNe, Int.reduceEq, Bool.not_true, Bool.not_false, eq_self, reduceCtorEq]
    rw [ho1]
    refine ⟨by omega, ⟨by omega, by omega⟩, ?_⟩
    refine awp_upto (tyP_ok _) c39 2000 [4, 6, 8, 9, 10, 11, 12, 13, 44, 45] (k) (fun c => ∀ c', c' < c → ¬ difP O Q p c') (fun c => R39 N O M Q z z' y y' (a, b) q0 i p 44 45 k c) (by kernel_rfl) ?_ ?_ ?_
    · simp (config := {implicitDefEqProofs := false, maxSteps := 4000000}) (disch := omega) only [push_cast, c39, R39, O39, Nat.reduceAdd, Nat.reduceSub, Nat.reduceMul, Nat.reduceBEq, Int.reduceToNat, Int.reduceNeg, Int.reduceLE, Int.reduceLT, Int.reduceBEq, Int.reduceBNe, Int.reduceEq, Bool.not_true, Bool.not_false, eq_self, reduceCtorEq]
    · exact fun c' h => by omega
    intro c hc hnc
    simp (config := {implicitDefEqProofs := false, maxSteps := 4000000}) (disch := omega) only [push_cast, c39, R39, O39, wayL_len, ho1, ho2, Nat.reduceAdd, Nat.reduceSub, Nat.reduceMul, Nat.reduceBEq, Int.reduceToNat, Int.reduceNeg, Int.reduceLE, Int.reduceLT, Int.reduceBEq, Int.reduceBNe, Int.reduceEq, Bool.not_true, Bool.not_false, eq_self, reduceCtorEq]
    refine ⟨fun hck => ⟨by omega, ⟨by omega, by omega⟩, hck, by omega, ⟨by omega, by omega⟩, hck, fun hd => ?_, fun hd => ⟨hck, upto_succ hnc fun h => h hd⟩⟩, fun hck => ?_⟩
    · refine callW_eq _ _ (f60 q0 (a, b) i c false hlt hinv.len hinv.tree (by omega)) ?_
      simp (config := {implicitDefEqProofs := false, maxSteps := 4000000}) (disch := omega) only [push_cast, c39, Nat.reduceAdd, Nat.reduceSub, Nat.reduceMul, Nat.reduceBEq, Int.reduceToNat, Int.reduceNeg, Int.reduceLE, Int.reduceLT, Int.reduceBEq, Int.reduceBNe, Int.reduceEq, Bool.not_true, Bool.not_false, eq_self, reduceCtorEq]
      have hd2 : difP O Q p c := hd
      refine .inl ⟨_, .inl ⟨i, c, Nat.lt_of_lt_of_le hlt hmore.len, hck, by rw [hmore.l1 i hlt, hp]; exact hd2, by rw [hmore.l1 i hlt, hp]; exact hnc, fun j c' hj hc' => by rw [hmore.l1 j (by omega)]; exact hnd j c' hj (by omega) hc', rfl, rfl⟩, ?_⟩
      rw [wordOf_more hmore hinv.tree hinv.len hlt]
    have hck2 : c = k := by omega
    subst hck2
    refine ⟨by omega, ⟨by omega, by omega⟩, ?_⟩
    refine awp_upto (tyP_ok _) c39 2000 [4, 6, 8, 9, 10, 11, 12, 13, 78, 79] (c) (fun _ => True) (fun x => R39 N O M Q z z' y y' (a, b) (inn (dltP N M) (a, b) i q0 x) i p 78 79 c x) (by kernel_rfl) ?_ ?_ ?_
    · simp (config := {implicitDefEqProofs := false, maxSteps := 4000000}) (disch := omega) only [push_cast, c39, R39, O39, Nat.reduceAdd, Nat.reduceSub, Nat.reduceMul, Nat.reduceBEq, Int.reduceToNat, Int.reduceNeg, Int.reduceLE, Int.reduceLT, Int.reduceBEq, Int.reduceBNe, Int.reduceEq, Bool.not_true, Bool.not_false, eq_self, reduceCtorEq]
      exact ⟨rfl, rfl⟩
    · trivial
    intro x hx _
    obtain ⟨hinv2, hle2⟩ := inn_inv hinv hlt x hx
    have hi2l : i < (inn (dltP N M) (a, b) i q0 x).1.length := by omega
    have hlen2 := pair_len hN hM ha hb hinv2
    have hsl := hinv2.len
    have hn1 : (N.getD p.1.toNat []).length = c := (hN.v.row _ (getD_mem' (by omega))).1
    have hn2 : (M.getD p.2.toNat []).length = c := (hM.v.row _ (getD_mem' (by omega))).1
    simp (config := {implicitDefEqProofs := false, maxSteps := 4000000}) (disch := omega) only [push_cast, c39, R39, O39, wayL_len, hn1, hn2, mapP_get, mapP_keys, Nat.reduceAdd, Nat.reduceSub, Nat.reduceMul, Nat.reduceBEq, Int.reduceToNat, Int.reduceNeg, Int.reduceLE, Int.reduceLT, Int.reduceBEq, Int.reduceBNe, Int.reduceEq, Bool.not_true, Bool.not_false, eq_self, reduceCtorEq]
    have hold := @inn_old _ _ (dltP N M) (a, b) i x q0
    have hnew := @inn_new _ _ (dltP N M) (a, b) i x q0
    have hpx : (inn (dltP N M) (a, b) i q0 x).1.getD i (a, b) = p := by
      rw [(inn_more (i := i) hinv.len x).1.l1 i hlt, hp]
    rw [hpx] at hold hnew
    have hdl : dltP N M p x = ((N.getD p.1.toNat []).getD x 0, (M.getD p.2.toNat []).getD x 0) := by simp [dltP, nxG]
    rw [hdl] at hold hnew
    refine ⟨fun hxk => ⟨by omega, ⟨by omega, by omega⟩, hxk, by omega, ⟨by omega, by omega⟩, hxk, fun hnm2 => ?_, fun hm2 => ?_⟩, fun hxk => ?_⟩
    · rw [hnew hnm2, mapP_put hnm2]
      refine ⟨⟨fun r hr v hv => ?_, by omega⟩, hxk, wayL_app (p := ((N.getD p.1.toNat []).getD x 0, (M.getD p.2.toNat []).getD x 0)) hsl, rfl⟩
      simp only [List.mem_singleton] at hr
      subst hr
      simp only [List.mem_cons, List.not_mem_nil, or_false] at hv
      rcases hv with rfl | rfl | rfl | rfl <;> rfl
    · rw [hold hm2]
      exact ⟨hxk, rfl, rfl⟩
    · have hxc : x = c := by omega
      subst hxc
      have hb2 : inn (dltP N M) (a, b) i q0 x = bfs (dltP N M) (a, b) x (i + 1) := by
        rw [bfs, hq0, if_pos hlt]
      have hl1 := (inn_more (δ := dltP N M) (s0 := (a, b)) (i := i) hinv.len x).1.l1
      rw [hb2] at hl1 hpx ⊢
      refine ⟨N.length * M.length - (i + 1), by omega, i + 1, by omega, fun j c' hj hjl hc' => ?_, rfl, by omega, rfl, rfl⟩
      by_cases hji : j < i
      · rw [hl1 j (by omega)]; exact hnd j c' hji (by omega) hc'
      · obtain rfl : j = i := by omega
        rw [hpx]; exact hnc c' hc'
  · refine .inr (.inr ⟨fun j c' hj hc' => ?_, rfl, rfl⟩)
    have hfin : finP N M a b k = q0 := by
      have := bfs_stop (δ := dltP N M) (s0 := (a, b)) (k := k) (i := i) (by rw [hq0]; omega) (N.length * M.length - i)
      rw [show i + (N.length * M.length - i) = N.length * M.length by omega, hq0] at this
      exact this
    rw [hfin] at hj ⊢
    exact hnd j c' (by omega) hj hc'
end Go.AM
end

/-! text Ue4 -/
section

end

/-! text Ue5 -/
section
namespace Go.AM
open Go Go.Proofs
/-- what Apart answers -/
def ApartR (N O : List (List Int)) (x y : Int) (w : List Int) (e : Int) : Prop :=
  (vmB N O = false ∧ e = 1 ∧ w = []) ∨ (vmB N O = true ∧ ¬ ((0 ≤ x ∧ x < N.length) ∧ 0 ≤ y ∧ y < N.length) ∧ e = 2 ∧ w = []) ∨
  (vmB N O = true ∧ ((0 ≤ x ∧ x < N.length) ∧ 0 ≤ y ∧ y < N.length) ∧ (TellR N O N O x y (N.getD 0 []).length w true ∧ e = 0 ∨ TellR N O N O x y (N.getD 0 []).length w false ∧ e = 4 ∧ w = []))
theorem TellR.nil {N O M Q : List (List Int)} {x y : Int} {k : Nat} {w : List Int} (h : TellR N O M Q x y k w false) : w = [] := by
  rcases h with ⟨_, _, _, _, _, _, _, _, h⟩ | ⟨_, h, _⟩
  · cases h
  · exact h
/- mizmaze/mealy.Apart -/
def c19 : VCfg := ⟨⟨[], [], [], [0, 1, 2, 3, 6, 7, 8, 9, 10, 14, 36]⟩, [], [], []⟩
set_option maxRecDepth 100000 in
theorem f19 (N O : List (List Int)) (z z' : Bool) (x y : Int) (hl : N.length ≤ 4611686018427387904) (hl2 : ∀ r ∈ N, r.length ≤ 4611686018427387904) (ho : O.length ≤ 4611686018427387904) (ho2 : ∀ r ∈ O, r.length ≤ 4611686018427387904) :
    ACall Tryz.prog 19 [.agg [.pay (.rows (N)) (z), .pay (.rows (O)) (z')], .int .i64 x, .int .i64 y] (fun r objs => ∃ w e nz, ApartR N O x y w e ∧ r = .tup [.pay (.ints .i64 w) nz, .int .i64 e] ∧ objs = []) := by
  refine acall_intro (tyP_ok _) c19 2000 [.tmp 6, .tmp 7] Tryz.func19 rfl (by rfl) rfl (by kernel_rfl) ?_
  unfold Tryz.f19
  simp (config := {implicitDefEqProofs := false, maxSteps := 4000000}) (disch := omega) only [push_cast, c19, Nat.reduceAdd, Nat.reduceSub, Nat.reduceMul, Nat.reduceBEq, Int.reduceToNat, Int.reduceNeg, Int.reduceLE, Int.reduceLT, Int.reduceBEq, Int.reduceBNe, Int.reduceEq, Bool.not_true, Bool.not_false, eq_self, reduceCtorEq]
  refine callW_eq _ _ (f8 N O z z' hl hl2 ho ho2) ?_
  simp (config := {implicitDefEqProofs := false, maxSteps := 4000000}) (disch := omega) only [push_cast, c19, Nat.reduceAdd, Nat.reduceSub, Nat.reduceMul, Nat.reduceBEq, Int.reduceToNat, Int.reduceNeg, Int.reduceLE, Int.reduceLT, Int.reduceBEq, Int.reduceBNe, Int.reduceEq, Bool.not_true, Bool.not_false, eq_self, reduceCtorEq]
  refine ⟨fun hv => ⟨_, _, _, .inl ⟨hv, rfl, rfl⟩, ⟨rfl, rfl⟩, rfl⟩, fun hv => ?_⟩
  refine callW_eq _ _ (f23 N O z z') ?_
  simp (config := {implicitDefEqProofs := false, maxSteps := 4000000}) (disch := omega) only [push_cast, c19, Nat.reduceAdd, Nat.reduceSub, Nat.reduceMul, Nat.reduceBEq, Int.reduceToNat, Int.reduceNeg, Int.reduceLE, Int.reduceLT, Int.reduceBEq, Int.reduceBNe, Int.reduceEq, Bool.not_true, Bool.not_false, eq_self, reduceCtorEq]
  refine callW_eq _ _ (f22 N z x) ?_
  simp (config := {implicitDefEqProofs := false, maxSteps := 4000000}) (disch := omega) only [push_cast, c19, Nat.reduceAdd, Nat.reduceSub, Nat.reduceMul, Nat.reduceBEq, Int.reduceToNat, Int.reduceNeg, Int.reduceLE, Int.reduceLT, Int.reduceBEq, Int.reduceBNe, Int.reduceEq, Bool.not_true, Bool.not_false, eq_self, reduceCtorEq]
  refine ⟨fun hx => ⟨_, _, _, .inr (.inl ⟨hv, fun h => hx h.1, rfl, rfl⟩), ⟨rfl, rfl⟩, rfl⟩, fun hx => ?_⟩
  refine callW_eq _ _ (f23 N O z z') ?_
  simp (config := {implicitDefEqProofs := false, maxSteps := 4000000}) (disch := omega) only [push_cast, c19, Nat.reduceAdd, Nat.reduceSub, Nat.reduceMul, Nat.reduceBEq, Int.reduceToNat, Int.reduceNeg, Int.reduceLE, Int.reduceLT, Int.reduceBEq, Int.reduceBNe, Int.reduceEq, Bool.not_true, Bool.not_false, eq_self, reduceCtorEq]
  refine callW_eq _ _ (f22 N z y) ?_
  simp (config := {implicitDefEqProofs := false, maxSteps := 4000000}) (disch := omega) only [push_cast, c19, Nat.reduceAdd, Nat.reduceSub, Nat.reduceMul, Nat.reduceBEq, Int.reduceToNat, Int.reduceNeg, Int.reduceLE, Int.reduceLT, Int.reduceBEq, Int.reduceBNe, Int.reduceEq, Bool.not_true, Bool.not_false, eq_self, reduceCtorEq]
  refine ⟨fun hy => ⟨_, _, _, .inr (.inl ⟨hv, fun h => hy h.2, rfl, rfl⟩), ⟨rfl, rfl⟩, rfl⟩, fun hy => ?_⟩
  have hV := vmB_iff.1 hv
  refine callW_rel (f39 N O N O z z' z z' x y _ hV hV hx hy) ?_
  rintro R O' ⟨w, ok, nz, hT, rfl, rfl⟩
  simp (config := {implicitDefEqProofs := false, maxSteps := 4000000}) (disch := omega) only [push_cast, c19, Nat.reduceAdd, Nat.reduceSub, Nat.reduceMul, Nat.reduceBEq, Int.reduceToNat, Int.reduceNeg, Int.reduceLE, Int.reduceLT, Int.reduceBEq, Int.reduceBNe, Int.reduceEq, Bool.not_true, Bool.not_false, eq_self, reduceCtorEq]
  refine ⟨fun h => ?_, fun h => ?_⟩
  · subst h
    exact ⟨_, _, _, .inr (.inr ⟨hv, ⟨hx, hy⟩, .inr ⟨by have := hT.nil; subst this; exact hT, rfl, rfl⟩⟩), ⟨rfl, rfl⟩, rfl⟩
  · subst h
    exact ⟨_, _, _, .inr (.inr ⟨hv, ⟨hx, hy⟩, .inl ⟨hT, rfl⟩⟩), ⟨rfl, rfl⟩, rfl⟩
end Go.AM
end

/-! text Ue6 -/
section
namespace Go.AM
open Go Go.Proofs
def xsO (N O : List (List Int)) (s : Int) (w : List Int) : List (List AV) := (outsG N O s w).map fun y => [.int .i64 y]
theorem xsO_len (N O : List (List Int)) (s : Int) (w : List Int) : (xsO N O s w).length = w.length := by simp [xsO, outsG_len]
theorem outsG_get {N O : List (List Int)} : ∀ {w : List Int} {s : Int} {i : Nat}, i < w.length → (outsG N O s w).getD i 0 = outG O (leadG N s (w.take i)) (w.getD i 0)
  | x :: w, s, 0, _ => by simp [outsG, leadG]
  | x :: w, s, i + 1, h => by
    have := outsG_get (N := N) (O := O) (w := w) (s := nxG N s x) (i := i) (by simpa using h)
    simp only [outsG, List.getD_cons_succ, this, List.take_succ_cons, leadG]
    rfl
/- (*mizmaze/mealy.walk).steps$1 -/
def c67 : VCfg := ⟨⟨[], [], [], [0, 1, 2, 5, 6, 7, 8, 9, 10, 47]⟩, [(3, (.op 0 .loose (.op 1 .loose (.op 2 .loose (.op 3 .loose (.op 4 .loose (.op 5 .loose (.op 6 .loose (.op 7 .loose (.op 8 .loose (.op 9 .loose (.op 10 .loose (.op 11 .loose (.op 12 .loose (.op 13 .loose (.op 14 .loose .nil)))))))))))))))), (4, (.op 0 .loose (.op 1 .loose (.op 2 .loose (.op 3 .loose (.op 4 .loose (.op 5 .loose (.op 6 .loose (.op 7 .loose (.op 8 .loose (.op 9 .loose (.op 10 .loose (.op 11 .loose (.op 12 .loose (.op 13 .loose (.op 14 .loose (.op 15 .strict (.op 16 .loose (.op 17 .eff .nil)))))))))))))))))))], [], [46]⟩
def O67 (N O : List (List Int)) (z z' : Bool) (s : Int) : List AObj := [.box [.pay (.rows N) z, .pay (.rows O) z', .int .i64 s]]
set_option maxRecDepth 100000 in
theorem f67 (l : Nat) (N O : List (List Int)) (z z' y : Bool) (s : Int) (w : List Int) (k : Nat) (hV : VM N O k) (hs : 0 ≤ s ∧ s < N.length) (hw : ∀ x ∈ w, 0 ≤ x ∧ x < k) (hl : w.length ≤ 4611686018427387904) :
    GCall Tryz.prog ⟨l, xsO N O s w⟩ 67 (false, 0) [.lit (.func (.yield l) #[] #[]), .fref [.pay (.ints .i64 w) y], .hbox (.ref 0 0)] (O67 N O z z' s) (fun g' _ A O' => (g'.1 = false → g'.2 = w.length ∧ O' = O67 N O z z' (leadG N s w)) ∧ A.tail = [.fref [.pay (.ints .i64 w) y], .hbox (.ref 0 0)]) := by
  unfold O67
  refine gcall_intro (tyP_ok _) c67 2000 [] [0, 1, 2] Tryz.func67 rfl (by rfl) rfl (by rfl) (by kernel_rfl) (by kernel_rfl) ?_
  unfold Tryz.f67
  simp (config := {implicitDefEqProofs := false, maxSteps := 4000000}) (disch := omega) only [push_cast, c67, Nat.reduceAdd, Nat.reduceSub, Nat.reduceMul, Nat.reduceBEq, Int.reduceToNat, Int.reduceNeg, Int.reduceLE, Int.reduceLT, Int.reduceBEq, Int.reduceBNe, Int.reduceEq, Bool.not_true, Bool.not_false, eq_self, reduceCtorEq]
  refine awp_loop (tyP_ok _) c67 2000 [0, 1, 2, 7, 8, 9] (fun n g st => ∃ i : Nat, g = (false, i) ∧ i ≤ w.length ∧ n = w.length - i ∧ st = ⟨49, [(0, .lit (.func (.yield l) #[] #[])), (1, .fref [.pay (.ints .i64 w) y]), (2, .hbox (.ref 0 0)), (7, .pay (.ints .i64 w) y), (8, .int .i64 w.length), (9, .int .i64 i)], [.box [.pay (.rows N) z, .pay (.rows O) z', .int .i64 (leadG N s (w.take i))]]⟩) w.length (by kernel_rfl) ?_ ?_
  · exact ⟨0, rfl, by omega, rfl, rfl⟩
  rintro n g st ⟨i, rfl, hi, rfl, rfl⟩
  simp (config := {implicitDefEqProofs := false, maxSteps := 4000000}) (disch := omega) only [push_cast, c67, Nat.reduceAdd, Nat.reduceSub, Nat.reduceMul, Nat.reduceBEq, Int.reduceToNat, Int.reduceNeg, Int.reduceLE, Int.reduceLT, Int.reduceBEq, Int.reduceBNe, Int.reduceEq, Bool.not_true, Bool.not_false, eq_self, reduceCtorEq]
  refine ⟨fun hlt => ?_, fun hge => ⟨by omega, by rw [List.take_of_length_le hge]⟩⟩
  have hlead := hV.v.lead (w.take i) hs.1 hs.2 fun x hx => hw x (List.mem_of_mem_take hx)
  have hx1 := hw _ (getD_mem hlt)
  have hat := hV.v.at hlead.1 hlead.2 hx1.1 hx1.2
  have hou := hV.out hlead.1 hlead.2 hx1.1 hx1.2
  have hol := hV.ol
  refine ⟨hlt, ⟨hlead.1, by omega⟩, ⟨hx1.1, by rw [hou.1]; exact hx1.2⟩, hlead, ⟨hx1.1, by rw [hat.1]; exact hx1.2⟩, ⟨by rw [xsO_len]; exact hlt, ?_⟩, w.length - (i + 1), by omega, i + 1, rfl, by omega, rfl, rfl, ?_⟩
  · simp only [xsO, List.getElem_map]
    have h1 := outsG_get (N := N) (O := O) (s := s) hlt
    have h2 : i < (outsG N O s w).length := by rw [outsG_len]; exact hlt
    rw [show (outsG N O s w)[i] = (outsG N O s w).getD i 0 by simp [h2], h1]
    rfl
  · exact (leadG_take N s w i hlt).symm
/- (*mizmaze/mealy.walk).steps -/
def c45 : VCfg := ⟨⟨[], [], [], [0, 1, 2, 3, 4]⟩, [], [], []⟩
theorem f45 (y0 : Yc) (g : Gh) (N O : List (List Int)) (z z' y : Bool) (s : Int) (w : List Int) :
    GCall Tryz.prog y0 45 g [.ref 0 0, .pay (.ints .i64 w) y] (O67 N O z z' s) (fun g' r A O' => g' = g ∧ r = .clo 67 [.fref [.pay (.ints .i64 w) y], .hbox (.ref 0 0)] ∧ A = [.ref 0 0, .pay (.ints .i64 w) y] ∧ O' = O67 N O z z' s) := by
  unfold O67
  refine gcall_intro (tyP_ok _) c45 2000 [.tmp 4] [0, 1] Tryz.func45 rfl (by rfl) rfl (by rfl) (by kernel_rfl) (by kernel_rfl) ?_
  unfold Tryz.f45
  simp (config := {implicitDefEqProofs := false, maxSteps := 4000000}) (disch := omega) only [push_cast, c45, Nat.reduceAdd, Nat.reduceSub, Nat.reduceMul, Nat.reduceBEq, Int.reduceToNat, Int.reduceNeg, Int.reduceLE, Int.reduceLT, Int.reduceBEq, Int.reduceBNe, Int.reduceEq, Bool.not_true, Bool.not_false, eq_self, reduceCtorEq]
/- slices.AppendSeq[[]int,int] -/
def c66 : VCfg := ⟨⟨[2], [], [], [0, 1, 2, 4, 5, 6, 7]⟩, [], [], []⟩
set_option maxHeartbeats 4000000 in
set_option maxRecDepth 100000 in
theorem f66 (N O : List (List Int)) (z z' y : Bool) (s : Int) (w : List Int) (k : Nat) (hV : VM N O k) (hs : 0 ≤ s ∧ s < N.length) (hw : ∀ x ∈ w, 0 ≤ x ∧ x < k) (hl : w.length ≤ 140737488355) :
    GCall Tryz.prog noY 66 (false, 0) [.lit (.slice none 0 0), .clo 67 [.fref [.pay (.ints .i64 w) y], .hbox (.ref 0 0)]] (O67 N O z z' s)
      (fun g' r A O' => g' = (false, 0) ∧ r = .own 0 ∧ A = [.junk, .clo 67 [.fref [.pay (.ints .i64 w) y], .hbox (.ref 1 0)]] ∧ O' = .arr (.ints .i64 (outsG N O s w)) ⟨3, true⟩ :: O67 N O z z' (leadG N s w)) := by
  unfold O67
  refine gcall_intro (tyP_ok _) c66 2000 [.tmp 4] [0, 1] Tryz.func66 rfl (by rfl) rfl (by rfl) (by kernel_rfl) (by kernel_rfl) ?_
  unfold Tryz.f66
  simp (config := {implicitDefEqProofs := false, maxSteps := 4000000}) (disch := omega) only [push_cast, c66, Nat.reduceAdd, Nat.reduceSub, Nat.reduceMul, Nat.reduceBEq, Int.reduceToNat, Int.reduceNeg, Int.reduceLE, Int.reduceLT, Int.reduceBEq, Int.reduceBNe, Int.reduceEq, Bool.not_true, Bool.not_false, eq_self, reduceCtorEq]
  refine awp_virt (i := 1) (c := 0) (p := .ints .i64 []) 3 rfl rfl rfl ?_
  refine awp_range (tyP_ok _) c66 2000 (xsO N O s w) [1, 2, 4] (fun j st => j ≤ w.length ∧ st = ⟨13, [(1, .clo 67 [.fref [.pay (.ints .i64 w) y], .hbox .junk]), (2, .ref 0 0), (4, .pay (.ints .i64 []) true)], [.box [.own 1], .arr (.ints .i64 ((outsG N O s w).take j)) ⟨3, true⟩]⟩)
      (fun _ _ _ => False) (fun g' _ A O' => (g'.1 = false → g'.2 = w.length ∧ O' = O67 N O z z' (leadG N s w)) ∧ A.tail = [.fref [.pay (.ints .i64 w) y], .hbox (.ref 0 0)]) rfl (by rfl) ?_ (by kernel_rfl) (by kernel_rfl) (by kernel_rfl) (by kernel_rfl) ?_ ?_ ?_ ?_
  · intro j hj
    simp [xsO]
  · intro l
    simp (config := {implicitDefEqProofs := false, maxSteps := 4000000}) (disch := omega) only [push_cast, c66, Nat.reduceAdd, Nat.reduceSub, Nat.reduceMul, Nat.reduceBEq, Int.reduceToNat, Int.reduceNeg, Int.reduceLE, Int.reduceLT, Int.reduceBEq, Int.reduceBNe, Int.reduceEq, Bool.not_true, Bool.not_false, eq_self, reduceCtorEq]
    exact f67 l N O z z' y s w k hV hs hw (by omega)
  · simp (config := {implicitDefEqProofs := false, maxSteps := 4000000}) (disch := omega) only [push_cast, c66, Nat.reduceAdd, Nat.reduceSub, Nat.reduceMul, Nat.reduceBEq, Int.reduceToNat, Int.reduceNeg, Int.reduceLE, Int.reduceLT, Int.reduceBEq, Int.reduceBNe, Int.reduceEq, Bool.not_true, Bool.not_false, eq_self, reduceCtorEq]
    exact Nat.zero_le _
  · intro j hj st hI
    obtain ⟨hjl, rfl⟩ := hI
    have e : (xsO N O s w)[j] = [.int .i64 ((outsG N O s w).getD j 0)] := by
      have : j < (outsG N O s w).length := by simpa [xsO] using hj
      simp [xsO, List.getD, this]
    rw [e]
    have hj' : j < (outsG N O s w).length := by simpa [xsO] using hj
    have hwl : j < w.length := by rw [outsG_len] at hj'; exact hj'
    simp (config := {implicitDefEqProofs := false, maxSteps := 4000000}) (disch := omega) only [push_cast, c66, Nat.reduceAdd, Nat.reduceSub, Nat.reduceMul, Nat.reduceBEq, Int.reduceToNat, Int.reduceNeg, Int.reduceLE, Int.reduceLT, Int.reduceBEq, Int.reduceBNe, Int.reduceEq, Bool.not_true, Bool.not_false, eq_self, reduceCtorEq]
    refine ⟨by rw [List.length_take]; omega, by omega, ?_⟩
    rw [List.take_succ_eq_append_getElem hj']
    simp [hj']
  · rintro g' r A O' ⟨hg, hA⟩
    refine ⟨fun h1 st ⟨hp, hst⟩ => ?_, fun _ _ _ h => h.elim⟩
    obtain ⟨h2, rfl⟩ := hg h1
    subst hst
    rw [h2, List.take_of_length_le (by rw [outsG_len]; omega)]
    simp (config := {implicitDefEqProofs := false, maxSteps := 4000000}) (disch := omega) only [push_cast, c66, hA, O67, Nat.reduceAdd, Nat.reduceSub, Nat.reduceMul, Nat.reduceBEq, Int.reduceToNat, Int.reduceNeg, Int.reduceLE, Int.reduceLT, Int.reduceBEq, Int.reduceBNe, Int.reduceEq, Bool.not_true, Bool.not_false, eq_self, reduceCtorEq]
/- slices.Collect[int] -/
def c44 : VCfg := ⟨⟨[], [], [], [0, 2]⟩, [], [66], [4]⟩
set_option maxRecDepth 100000 in
theorem f44 (N O : List (List Int)) (z z' y : Bool) (s : Int) (w : List Int) (k : Nat) (hV : VM N O k) (hs : 0 ≤ s ∧ s < N.length) (hw : ∀ x ∈ w, 0 ≤ x ∧ x < k) (hl : w.length ≤ 140737488355) :
    GCall Tryz.prog noY 44 (false, 0) [.clo 67 [.fref [.pay (.ints .i64 w) y], .hbox (.ref 0 0)]] (O67 N O z z' s)
      (fun g' r A O' => g' = (false, 0) ∧ r = .own 0 ∧ A = [.clo 67 [.fref [.pay (.ints .i64 w) y], .hbox (.ref 1 0)]] ∧ O' = .arr (.ints .i64 (outsG N O s w)) ⟨3, true⟩ :: O67 N O z z' (leadG N s w)) := by
  have h := f66 N O z z' y s w k hV hs hw hl
  unfold O67 at h ⊢
  refine gcall_intro (tyP_ok _) c44 2000 [.tmp 2] [0] Tryz.func44 rfl (by rfl) rfl (by rfl) (by kernel_rfl) (by kernel_rfl) ?_
  unfold Tryz.f44
  simp (config := {implicitDefEqProofs := false, maxSteps := 4000000}) (disch := omega) only [push_cast, c44, Nat.reduceAdd, Nat.reduceSub, Nat.reduceMul, Nat.reduceBEq, Int.reduceToNat, Int.reduceNeg, Int.reduceLE, Int.reduceLT, Int.reduceBEq, Int.reduceBNe, Int.reduceEq, Bool.not_true, Bool.not_false, eq_self, reduceCtorEq]
  refine lcallW_eq _ _ _ h ?_
  simp (config := {implicitDefEqProofs := false, maxSteps := 4000000}) (disch := omega) only [push_cast, c44, Nat.reduceAdd, Nat.reduceSub, Nat.reduceMul, Nat.reduceBEq, Int.reduceToNat, Int.reduceNeg, Int.reduceLE, Int.reduceLT, Int.reduceBEq, Int.reduceBNe, Int.reduceEq, Bool.not_true, Bool.not_false, eq_self, reduceCtorEq]
/- mizmaze/mealy.Outs -/
def c25 : VCfg := ⟨⟨[13], [], [], [0, 1, 2, 3, 6, 7, 8, 9]⟩, [(3, (.op 0 .loose (.op 1 .loose (.op 2 .loose (.op 3 .loose (.op 4 .loose (.op 5 .loose (.op 6 .loose .nil))))))))], [45, 44], [16, 17]⟩
set_option maxRecDepth 100000 in
theorem f25 (N O : List (List Int)) (z z' y : Bool) (s : Int) (w : List Int) (k : Nat) (hV : VM N O k) (hs : 0 ≤ s ∧ s < N.length) (hw : ∀ x ∈ w, 0 ≤ x ∧ x < k) (hl : w.length ≤ 140737488355) :
    ACall Tryz.prog 25 [.agg [.pay (.rows (N)) (z), .pay (.rows (O)) (z')], .int .i64 s, .pay (.ints .i64 w) y] (fun r objs => r = .tup [.pay (.ints .i64 (outsG N O s w)) true, .int .i64 (leadG N s w)] ∧ objs = []) := by
  suffices h : ACall Tryz.prog 25 [.agg [.pay (.rows (N)) (z), .pay (.rows (O)) (z')], .int .i64 s, .pay (.ints .i64 w) y] (fun r objs => r = .tup [.own 0, .int .i64 (leadG N s w)] ∧ objs = [.arr (.ints .i64 (outsG N O s w)) ⟨3, true⟩]) by
    refine h.frz ?_
    rintro r objs ⟨rfl, rfl⟩
    exact ⟨[0], _, 1, rfl, rfl, rfl⟩
  have h1 := f45 noY (false, 0) N O z z' y s w
  have h2 := f44 N O z z' y s w k hV hs hw hl
  unfold O67 at h1 h2
  refine acall_intro (tyP_ok _) c25 2000 [.tmp 6, .tmp 7] Tryz.func25 rfl (by rfl) rfl (by kernel_rfl) ?_
  unfold Tryz.f25
  simp (config := {implicitDefEqProofs := false, maxSteps := 4000000}) (disch := omega) only [push_cast, c25, Nat.reduceAdd, Nat.reduceSub, Nat.reduceMul, Nat.reduceBEq, Int.reduceToNat, Int.reduceNeg, Int.reduceLE, Int.reduceLT, Int.reduceBEq, Int.reduceBNe, Int.reduceEq, Bool.not_true, Bool.not_false, eq_self, reduceCtorEq]
  refine lcallW_eq _ _ _ h1 ?_
  simp (config := {implicitDefEqProofs := false, maxSteps := 4000000}) (disch := omega) only [push_cast, c25, Nat.reduceAdd, Nat.reduceSub, Nat.reduceMul, Nat.reduceBEq, Int.reduceToNat, Int.reduceNeg, Int.reduceLE, Int.reduceLT, Int.reduceBEq, Int.reduceBNe, Int.reduceEq, Bool.not_true, Bool.not_false, eq_self, reduceCtorEq]
  refine lcallW_eq _ _ _ h2 ?_
  simp (config := {implicitDefEqProofs := false, maxSteps := 4000000}) (disch := omega) only [push_cast, c25, Nat.reduceAdd, Nat.reduceSub, Nat.reduceMul, Nat.reduceBEq, Int.reduceToNat, Int.reduceNeg, Int.reduceLE, Int.reduceLT, Int.reduceBEq, Int.reduceBNe, Int.reduceEq, Bool.not_true, Bool.not_false, eq_self, reduceCtorEq]

end Go.AM
end

/-! text Ue7 -/
section
namespace Go.AM
open Go Go.Proofs
/-- what Run answers -/
def RunMR (N O : List (List Int)) (s : Int) (w : List Int) (out : List Int) (t e : Int) : Prop :=
  (vmB N O = false ∧ e = 1 ∧ t = 0 ∧ out = []) ∨ (vmB N O = true ∧ ¬ ((0 ≤ s ∧ s < N.length) ∧ wordB (N.getD 0 []).length w = true) ∧ e = 2 ∧ t = 0 ∧ out = []) ∨
  (vmB N O = true ∧ ((0 ≤ s ∧ s < N.length) ∧ wordB (N.getD 0 []).length w = true) ∧ e = 0 ∧ t = leadG N s w ∧ out = outsG N O s w)
theorem RunMR.e0 {N O : List (List Int)} {s : Int} {w out : List Int} {t e : Int} (h : RunMR N O s w out t e) (he : e = 0) : vmB N O = true ∧ ((0 ≤ s ∧ s < N.length) ∧ wordB (N.getD 0 []).length w = true) ∧ t = leadG N s w ∧ out = outsG N O s w := by
  rcases h with ⟨_, h, _⟩ | ⟨_, _, h, _⟩ | ⟨h1, h2, _, h3, h4⟩
  · omega
  · omega
  · exact ⟨h1, h2, h3, h4⟩
theorem RunMR.ok {N O : List (List Int)} {s : Int} {w out : List Int} {t e : Int} (h : RunMR N O s w out t e) (h1 : vmB N O = true) (h2 : (0 ≤ s ∧ s < N.length) ∧ wordB (N.getD 0 []).length w = true) : e = 0 ∧ t = leadG N s w ∧ out = outsG N O s w := by
  rcases h with ⟨h, _⟩ | ⟨_, h, _⟩ | ⟨_, _, h⟩
  · rw [h1] at h; cases h
  · exact absurd h2 h
  · exact h
/- mizmaze/mealy.Run -/
def c6 : VCfg := ⟨⟨[], [], [], [0, 1, 2, 3, 6, 7, 8, 9, 10, 11, 15]⟩, [], [], []⟩
set_option maxRecDepth 100000 in
theorem f6 (N O : List (List Int)) (z z' y : Bool) (s : Int) (w : List Int) (hl : N.length ≤ 4611686018427387904) (hl2 : ∀ r ∈ N, r.length ≤ 4611686018427387904) (ho : O.length ≤ 4611686018427387904) (ho2 : ∀ r ∈ O, r.length ≤ 4611686018427387904) (hw : w.length ≤ 4611686018427387904) :
    ACall Tryz.prog 6 [.agg [.pay (.rows (N)) (z), .pay (.rows (O)) (z')], .int .i64 s, .pay (.ints .i64 w) y] (fun r objs => ∃ out t e, RunMR N O s w out t e ∧ r = .tup [.pay (.ints .i64 out) true, .int .i64 t, .int .i64 e] ∧ objs = []) := by
  refine acall_intro (tyP_ok _) c6 2000 [.tmp 6, .tmp 7, .tmp 8] Tryz.func6 rfl (by rfl) rfl (by kernel_rfl) ?_
  unfold Tryz.f6
  simp (config := {implicitDefEqProofs := false, maxSteps := 4000000}) (disch := omega) only [push_cast, c6, Nat.reduceAdd, Nat.reduceSub, Nat.reduceMul, Nat.reduceBEq, Int.reduceToNat, Int.reduceNeg, Int.reduceLE, Int.reduceLT, Int.reduceBEq, Int.reduceBNe, Int.reduceEq, Bool.not_true, Bool.not_false, eq_self, reduceCtorEq]
  refine callW_eq _ _ (f8 N O z z' hl hl2 ho ho2) ?_
  simp (config := {implicitDefEqProofs := false, maxSteps := 4000000}) (disch := omega) only [push_cast, c6, Nat.reduceAdd, Nat.reduceSub, Nat.reduceMul, Nat.reduceBEq, Int.reduceToNat, Int.reduceNeg, Int.reduceLE, Int.reduceLT, Int.reduceBEq, Int.reduceBNe, Int.reduceEq, Bool.not_true, Bool.not_false, eq_self, reduceCtorEq]
  refine ⟨fun hv => ⟨_, _, _, .inl ⟨hv, rfl, rfl, rfl⟩, rfl, rfl, rfl⟩, fun hv => ?_⟩
  have hV := vmB_iff.1 hv
  have hn0 := hV.v.n1
  refine callW_eq _ _ (f23 N O z z') ?_
  simp (config := {implicitDefEqProofs := false, maxSteps := 4000000}) (disch := omega) only [push_cast, c6, Nat.reduceAdd, Nat.reduceSub, Nat.reduceMul, Nat.reduceBEq, Int.reduceToNat, Int.reduceNeg, Int.reduceLE, Int.reduceLT, Int.reduceBEq, Int.reduceBNe, Int.reduceEq, Bool.not_true, Bool.not_false, eq_self, reduceCtorEq]
  refine callW_eq _ _ (f22 N z s) ?_
  simp (config := {implicitDefEqProofs := false, maxSteps := 4000000}) (disch := omega) only [push_cast, c6, Nat.reduceAdd, Nat.reduceSub, Nat.reduceMul, Nat.reduceBEq, Int.reduceToNat, Int.reduceNeg, Int.reduceLE, Int.reduceLT, Int.reduceBEq, Int.reduceBNe, Int.reduceEq, Bool.not_true, Bool.not_false, eq_self, reduceCtorEq]
  refine ⟨fun hs => ⟨_, _, _, .inr (.inl ⟨hv, fun h => hs h.1, rfl, rfl, rfl⟩), rfl, rfl, rfl⟩, fun hs => ?_⟩
  refine callW_eq _ _ (f23 N O z z') ?_
  simp (config := {implicitDefEqProofs := false, maxSteps := 4000000}) (disch := omega) only [push_cast, c6, Nat.reduceAdd, Nat.reduceSub, Nat.reduceMul, Nat.reduceBEq, Int.reduceToNat, Int.reduceNeg, Int.reduceLE, Int.reduceLT, Int.reduceBEq, Int.reduceBNe, Int.reduceEq, Bool.not_true, Bool.not_false, eq_self, reduceCtorEq]
  refine callW_eq _ _ (f24 N z y w (by omega) hw) ?_
  simp (config := {implicitDefEqProofs := false, maxSteps := 4000000}) (disch := omega) only [push_cast, c6, Nat.reduceAdd, Nat.reduceSub, Nat.reduceMul, Nat.reduceBEq, Int.reduceToNat, Int.reduceNeg, Int.reduceLE, Int.reduceLT, Int.reduceBEq, Int.reduceBNe, Int.reduceEq, Bool.not_true, Bool.not_false, eq_self, reduceCtorEq]
  refine ⟨fun hb => ⟨_, _, _, .inr (.inl ⟨hv, fun h => (by rw [h.2] at hb; cases hb), rfl, rfl, rfl⟩), rfl, rfl, rfl⟩, fun hb => ?_⟩
  have hW := wordB_iff.1 hb
  refine callW_eq _ _ (f25 N O z z' y s w _ hV hs hW.2 (by omega)) ?_
  simp (config := {implicitDefEqProofs := false, maxSteps := 4000000}) (disch := omega) only [push_cast, c6, Nat.reduceAdd, Nat.reduceSub, Nat.reduceMul, Nat.reduceBEq, Int.reduceToNat, Int.reduceNeg, Int.reduceLE, Int.reduceLT, Int.reduceBEq, Int.reduceBNe, Int.reduceEq, Bool.not_true, Bool.not_false, eq_self, reduceCtorEq]
  exact ⟨_, _, _, .inr (.inr ⟨hv, ⟨hs, hb⟩, rfl, rfl, rfl⟩), rfl, rfl, rfl⟩
end Go.AM
end

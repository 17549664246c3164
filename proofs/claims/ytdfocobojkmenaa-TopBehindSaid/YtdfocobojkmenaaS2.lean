/-
  Contracts of Told, Apart and Equal on both sides; conditions in each statement.
-/
import Derived.Test.YtdfocobojkmenaaS1
import Derived.Test.YtdfocobojkmenaaP2
set_option linter.unusedVariables false
set_option linter.unusedSimpArgs false
set_option linter.unusedSectionVars false
set_option linter.unnecessarySimpa false

/-! text Uk3 -/
section
namespace Go.AM
open Go Go.Proofs
def revS (l : List Int) (i : Nat) : List Int := (List.range l.length).map fun p => if p < i ∨ l.length - 1 - p < i then l.getD (l.length - 1 - p) 0 else l.getD p 0
theorem revS_len (l : List Int) (i : Nat) : (revS l i).length = l.length := by simp [revS]
theorem revS_get (l : List Int) (i p : Nat) (h : p < l.length) : (revS l i).getD p 0 = if p < i ∨ l.length - 1 - p < i then l.getD (l.length - 1 - p) 0 else l.getD p 0 := by
  simp [revS, List.getD, h]
theorem revS_zero (l : List Int) : revS l 0 = l := ints_eq' (revS_len l 0) fun j hj => by
  rw [revS_len] at hj
  rw [revS_get l 0 j hj, if_neg (by omega)]
theorem revS_step (l : List Int) (i : Nat) (h : i < l.length / 2) : ((revS l i).set i ((revS l i).getD (l.length - 1 - i) 0)).set (l.length - 1 - i) ((revS l i).getD i 0) = revS l (i + 1) := ints_eq' (by simp [revS_len]) fun p hp => by
  simp only [List.length_set, revS_len] at hp
  rw [revS_get l (i + 1) p hp]
  simp only [List.getD_eq_getElem?_getD, List.getElem?_set]
  simp only [← List.getD_eq_getElem?_getD, List.length_set, revS_len]
  by_cases h1 : l.length - 1 - i = p
  · subst h1
    rw [if_pos rfl, if_pos hp]
    simp only [Option.getD_some]
    rw [revS_get l i i (by omega), if_neg (by omega), if_pos (by omega)]
    congr 1; omega
  · rw [if_neg h1]
    by_cases h2 : i = p
    · subst h2
      rw [if_pos rfl, if_pos (by omega)]
      simp only [Option.getD_some]
      rw [revS_get l i _ (by omega), if_neg (by omega), if_pos (by omega)]
    · rw [if_neg h2, ← List.getD_eq_getElem?_getD, revS_get l i p hp]
      by_cases h3 : p < i ∨ l.length - 1 - p < i
      · rw [if_pos h3, if_pos (by omega)]
      · rw [if_neg h3, if_neg (by omega)]
theorem revS_end (l : List Int) (i : Nat) (h : l.length ≤ 2 * i + 1) : revS l i = l.reverse := ints_eq' (by simp [revS_len]) fun p hp => by
  rw [revS_len] at hp
  rw [revS_get l i p hp]
  have e : l.reverse.getD p 0 = l.getD (l.length - 1 - p) 0 := by simp [List.getD, List.getElem?_reverse hp]
  rw [e]
  split
  · rfl
  · congr 1; omega
/- slices.Reverse[[]int,int] -/
def c96 : VCfg := ⟨⟨[], [], [], [0, 2, 3, 9]⟩, [(3, (.op 0 .loose (.op 1 .loose (.op 2 .strict (.op 3 .strict (.op 4 .loose (.op 5 .loose (.op 6 .loose (.op 7 .loose (.op 8 .strict (.op 9 .strict (.op 10 .strict (.op 11 .loose (.op 12 .loose (.op 13 .eff (.op 14 .loose (.op 15 .eff .nil)))))))))))))))))], [], []⟩
theorem f96 (y : Yc) (g : Gh) (l : List Int) (ai : AI) (hl : l.length ≤ 4611686018427387904) :
    GCall Try.prog y 96 g [.own 0] [.arr (.ints .i64 l) ai] (fun g' r A O => g' = g ∧ r = .tup [] ∧ A = [.own 0] ∧ O = [.arr (.ints .i64 l.reverse) ai]) := by
  refine gcall_intro (tyP_ok _) c96 2000 [] [0] Try.func96 rfl (by rfl) rfl (by rfl) (by kernel_rfl) (by kernel_rfl) ?_
  unfold Try.f96
  simp (config := {implicitDefEqProofs := false, maxSteps := 4000000}) (disch := omega) only [push_cast, c96, Nat.reduceAdd, Nat.reduceSub, Nat.reduceMul, Nat.reduceBEq, Int.reduceToNat, Int.reduceNeg, Int.reduceLE, Int.reduceLT, Int.reduceBEq, Int.reduceBNe, Int.reduceEq, Bool.not_true, Bool.not_false, eq_self, reduceCtorEq]
  refine awp_upto (tyP_ok _) c96 2000 [0, 2, 3] (l.length / 2) (fun _ => True) (fun i => ⟨28, [(0, .own 0), (2, .int .i64 i), (3, .int .i64 ((l.length : Int) - 1 - i))], [.arr (.ints .i64 (revS l i)) ai]⟩) (by kernel_rfl) ?_ ?_ ?_
  · simp (config := {implicitDefEqProofs := false, maxSteps := 4000000}) (disch := omega) only [push_cast, c96, Nat.reduceAdd, Nat.reduceSub, Nat.reduceMul, Nat.reduceBEq, Int.reduceToNat, Int.reduceNeg, Int.reduceLE, Int.reduceLT, Int.reduceBEq, Int.reduceBNe, Int.reduceEq, Bool.not_true, Bool.not_false, eq_self, reduceCtorEq]
    rw [revS_zero]
    exact ⟨by omega, rfl⟩
  · trivial
  intro i hi _
  simp (config := {implicitDefEqProofs := false, maxSteps := 4000000}) (disch := omega) only [push_cast, c96, Nat.reduceAdd, Nat.reduceSub, Nat.reduceMul, Nat.reduceBEq, Int.reduceToNat, Int.reduceNeg, Int.reduceLE, Int.reduceLT, Int.reduceBEq, Int.reduceBNe, Int.reduceEq, Bool.not_true, Bool.not_false, eq_self, reduceCtorEq]
  refine ⟨fun h => ?_, fun h => revS_end l i (by omega)⟩
  have e1 : ((l.length : Int) - 1 - (i : Int)).toNat = l.length - 1 - i := by omega
  rw [e1, List.length_set, revS_len, revS_step l i (by omega)]
  exact ⟨by omega, by omega, by omega, by omega, by omega, by omega, rfl⟩
/- mizmaze/mealy.word -/
def c85 : VCfg := ⟨⟨[], [], [], [0, 1, 2, 6, 7, 15]⟩, [], [96], [30]⟩
set_option maxRecDepth 100000 in
theorem f85 (q : List (Int × Int) × Stp) (d : Int × Int) (i : Nat) (c : Int) (z : Bool) (hi : i < q.1.length) (hq : q.2.length = q.1.length) (ht : Tree q.2) (hl : q.1.length ≤ 65536) :
    ACall Try.prog 85 [.pay (.gen 4 (wayL q d)) z, .int .i64 i, .int .i64 c] (fun r objs => r = .own 0 ∧ objs = [.arr (.ints .i64 (wordOf q.2 i ++ [c])) ⟨3, false⟩]) := by
  refine acall_intro (tyP_ok _) c85 2000 [.tmp 6] Try.func85 rfl (by rfl) rfl (by kernel_rfl) ?_
  unfold Try.f85
  simp (config := {implicitDefEqProofs := false, maxSteps := 4000000}) (disch := omega) only [push_cast, c85, Nat.reduceAdd, Nat.reduceSub, Nat.reduceMul, Nat.reduceBEq, Int.reduceToNat, Int.reduceNeg, Int.reduceLE, Int.reduceLT, Int.reduceBEq, Int.reduceBNe, Int.reduceEq, Bool.not_true, Bool.not_false, eq_self, reduceCtorEq]
  refine awp_loop (tyP_ok _) c85 2000 [0, 1, 6, 7] (fun n g st => g = (false, 0) ∧ ∃ (j : Nat) (o : List Int), j < q.1.length ∧ n = j ∧ o ++ upW q.2 (j + 1) j = c :: upW q.2 (i + 1) i ∧ o.length + j ≤ i + 1 ∧ st = ⟨32, [(0, .pay (.gen 4 (wayL q d)) z), (1, .int .i64 j), (6, .pay (.ints .i64 []) true), (7, .own 0)], [.arr (.ints .i64 o) ⟨3, false⟩]⟩) i (by kernel_rfl) ⟨rfl, i, [c], hi, rfl, rfl, by simp; omega, rfl⟩ ?_
  rintro j g st ⟨rfl, j', o, hj, hjn, ho, hoj, rfl⟩
  obtain rfl : j = j' := hjn
  have e := wayL_get (d := d) hj
  simp (config := {implicitDefEqProofs := false, maxSteps := 4000000}) (disch := omega) only [push_cast, c85, e, wayL_len, Nat.reduceAdd, Nat.reduceSub, Nat.reduceMul, Nat.reduceBEq, Int.reduceToNat, Int.reduceNeg, Int.reduceLE, Int.reduceLT, Int.reduceBEq, Int.reduceBNe, Int.reduceEq, Bool.not_true, Bool.not_false, eq_self, reduceCtorEq]
  refine ⟨hj, fun hge => ?_, fun hlt => ?_⟩
  · rcases ht j (by omega) with h1 | ⟨p, x, h1, h2⟩
    · omega
    rw [h1]
    refine ⟨hj, by omega, hj, p, h2, p, _, by omega, rfl, ?_, ?_, rfl, rfl⟩
    · rw [← ho]
      have e2 : upW q.2 (j + 1) j = (x : Int) :: upW q.2 j p := by
        simp only [upW]
        rw [h1]
        have h3 : ¬ ((p : Int) < 0) := by omega
        simp only [h3, if_false, Int.toNat_natCast]
      rw [e2, upW_fuel ht j (p + 1) p h2 (by omega) (by omega)]
      simp
    · simp; omega
  · refine lcallW_eq _ _ _ (f96 _ _ o _ (by omega)) ?_
    simp (config := {implicitDefEqProofs := false, maxSteps := 4000000}) (disch := omega) only [push_cast, c85, Nat.reduceAdd, Nat.reduceSub, Nat.reduceMul, Nat.reduceBEq, Int.reduceToNat, Int.reduceNeg, Int.reduceLE, Int.reduceLT, Int.reduceBEq, Int.reduceBNe, Int.reduceEq, Bool.not_true, Bool.not_false, eq_self, reduceCtorEq]
    have e2 : upW q.2 (j + 1) j = [] := by simp only [upW]; rw [if_pos hlt]
    rw [e2, List.append_nil] at ho
    rw [ho, List.reverse_cons]; rfl
/- mizmaze/mealy.Told -/
def c65 : VCfg := ⟨⟨[], [13], [], [0, 1, 2, 3, 4, 6, 8, 9, 10, 11, 12, 13, 14, 15, 16, 30, 44, 45, 46, 66, 78, 79, 80, 104]⟩, [(10, (.op 0 .loose (.op 1 .loose (.op 2 .loose (.op 3 .loose (.op 4 .loose (.op 5 .loose (.op 6 .loose (.op 7 .loose (.op 8 .loose (.op 9 .loose (.op 10 .loose (.op 11 .loose (.op 12 .loose (.op 13 .loose (.op 14 .loose (.op 15 .loose (.op 16 .loose (.op 17 .loose (.op 18 .loose .nil)))))))))))))))))))), (16, (.op 0 .loose (.op 1 .loose (.op 2 .loose (.op 3 .loose (.op 4 .loose (.op 5 .loose (.op 6 .loose (.op 7 .loose (.op 8 .loose (.op 9 .loose (.op 10 .loose (.op 11 .loose (.op 12 .loose (.op 13 .loose (.op 14 .loose (.op 15 .loose (.op 16 .loose (.op 17 .loose (.op 18 .loose (.op 19 .eff (.op 20 .eff .nil))))))))))))))))))))))], [], []⟩
def O65 (q : List (Int × Int) × Stp) (d : Int × Int) : List AObj := [.arr (.gen 4 (wayL q d)) ⟨111, false⟩, .mapB .arr (mapP q.1)]
def S65 (N O M Q : List (List Int)) (z z' y y' : Bool) (d : Int × Int) (q : List (Int × Int) × Stp) (i : Nat) : St :=
  ⟨115, [(4, .fref [.pay (.rows N) z, .pay (.rows O) z']), (6, .fref [.pay (.rows M) y, .pay (.rows Q) y']), (8, .pay (.ints .i64 []) true), (9, .bool false), (10, .own 0), (11, .mapr 1), (12, .int .i64 i)], O65 q d⟩
def R65 (N O M Q : List (List Int)) (z z' y y' : Bool) (d : Int × Int) (q : List (Int × Int) × Stp) (i : Nat) (p : Int × Int) (t1 t2 k c : Nat) : St :=
  ⟨115, [(4, .fref [.pay (.rows N) z, .pay (.rows O) z']), (6, .fref [.pay (.rows M) y, .pay (.rows Q) y']), (8, .pay (.ints .i64 []) true), (9, .bool false), (10, .own 0), (11, .mapr 1), (12, .int .i64 i), (13, .ref 2 0), (t1, .int .i64 k), (t2, .int .i64 c)], O65 q d ++ [.arr (.ints .i64 [p.1, p.2]) ⟨97, false⟩]⟩
set_option maxHeartbeats 4000000 in
set_option maxRecDepth 100000 in
theorem f65 (N O M Q : List (List Int)) (z z' y y' : Bool) (a b : Int) (k : Nat) (hN : VM N O k) (hM : VM M Q k) (ha : 0 ≤ a ∧ a < N.length) (hb : 0 ≤ b ∧ b < M.length) :
    ACall Try.prog 65 [.agg [.pay (.rows (N)) (z), .pay (.rows (O)) (z')], .int .i64 a, .agg [.pay (.rows (M)) (y), .pay (.rows (Q)) (y')], .int .i64 b] (fun r objs => ∃ w ok nz, TellR N O M Q a b k w ok ∧ r = .tup [.pay (.ints .i64 w) nz, .bool ok] ∧ objs = []) := by
  suffices h : ACall Try.prog 65 [.agg [.pay (.rows (N)) (z), .pay (.rows (O)) (z')], .int .i64 a, .agg [.pay (.rows (M)) (y), .pay (.rows (Q)) (y')], .int .i64 b] (fun r objs => (∃ w, TellR N O M Q a b k w true ∧ r = .tup [.own 0, .bool true] ∧ objs = [.arr (.ints .i64 w) ⟨3, false⟩]) ∨ (TellR N O M Q a b k [] false ∧ r = .tup [.pay (.ints .i64 []) true, .bool false] ∧ objs = [])) by
    refine h.frz ?_
    rintro r objs (⟨w, h1, rfl, rfl⟩ | ⟨h1, rfl, rfl⟩)
    · exact ⟨[0], _, 1, rfl, w, true, _, h1, rfl, rfl⟩
    · exact ⟨[], _, 0, rfl, [], false, _, h1, rfl, rfl⟩
  have hn := hN.v.n2
  have hm := hM.v.n2
  have hk2 := hN.v.k2
  have hnm : N.length * M.length ≤ 3600 := Nat.mul_le_mul hn hm
  refine acall_intro (tyP_ok _) c65 2000 [.tmp 8, .tmp 9] Try.func65 rfl (by rfl) rfl (by kernel_rfl) ?_
  unfold Try.f65
  simp (config := {implicitDefEqProofs := false, maxSteps := 4000000}) (disch := omega) only [push_cast, c65, Nat.reduceAdd, Nat.reduceSub, Nat.reduceMul, Nat.reduceBEq, Int.reduceToNat, Int.reduceNeg, Int.reduceLE, Int.reduceLT, Int.reduceBEq, Int.reduceBNe, Int.reduceEq, Bool.not_true, Bool.not_false, eq_self, reduceCtorEq]
  refine ⟨fun x hx => (by cases hx), ?_⟩
  refine awp_loop (tyP_ok _) c65 2000 [4, 6, 8, 9, 10, 11, 12] (fun n g st => ∃ i : Nat, g = (false, 0) ∧ i ≤ N.length * M.length ∧ (∀ j c, j < i → j < (bfs (dltP N M) (a, b) k i).1.length → c < k → ¬ difP O Q ((bfs (dltP N M) (a, b) k i).1.getD j (a, b)) c) ∧ n = N.length * M.length - i ∧ st = S65 N O M Q z z' y y' (a, b) (bfs (dltP N M) (a, b) k i) i) (N.length * M.length) (by kernel_rfl) ?_ ?_
  · simp (config := {implicitDefEqProofs := false, maxSteps := 4000000}) (disch := omega) only [push_cast, c65, S65, O65, Nat.reduceAdd, Nat.reduceSub, Nat.reduceMul, Nat.reduceBEq, Int.reduceToNat, Int.reduceNeg, Int.reduceLE, Int.reduceLT, Int.reduceBEq, Int.reduceBNe, Int.reduceEq, Bool.not_true, Bool.not_false, eq_self, reduceCtorEq]
    refine ⟨0, Nat.zero_le _, fun j c h => by omega, rfl, ?_⟩
    simp [bfs, wayL, wayC, mapP, mputK, mfindK, List.range_succ]
  rintro n g st ⟨i, rfl, hi, hnd, rfl, rfl⟩
  have hinv := bfs_inv (δ := dltP N M) (s0 := (a, b)) (k := k) i
  have hbd := pair_len hN hM ha hb hinv
  have hin := pair_in hN hM ha hb hinv
  have hmore : More (a, b) (bfs (dltP N M) (a, b) k i) (finP N M a b k) := by
    have := bfs_more (δ := dltP N M) (s0 := (a, b)) (k := k) (i := i) (N.length * M.length - i)
    rwa [show i + (N.length * M.length - i) = N.length * M.length by omega] at this
  generalize hq0 : bfs (dltP N M) (a, b) k i = q0 at *
  simp (config := {implicitDefEqProofs := false, maxSteps := 4000000}) (disch := omega) only [push_cast, c65, S65, O65, wayL_len, Nat.reduceAdd, Nat.reduceSub, Nat.reduceMul, Nat.reduceBEq, Int.reduceToNat, Int.reduceNeg, Int.reduceLE, Int.reduceLT, Int.reduceBEq, Int.reduceBNe, Int.reduceEq, Bool.not_true, Bool.not_false, eq_self, reduceCtorEq]
  refine ⟨fun hlt => ⟨hlt, ?_⟩, fun hge => ?_⟩
  · have e := wayL_get (d := (a, b)) hlt
    have hin1 := hin i hlt
    obtain ⟨⟨hp1, hp2⟩, hp3, hp4⟩ := hin1
    have hol := hN.ol
    have hql := hM.ol
    generalize hp : q0.1.getD i (a, b) = p at *
    have ho1 : (O.getD p.1.toNat []).length = k := (hN.orow _ (getD_mem' (by omega))).1
    have ho2 : (Q.getD p.2.toNat []).length = k := (hM.orow _ (getD_mem' (by omega))).1
    simp (config := {implicitDefEqProofs := false, maxSteps := 4000000}) (disch := omega) only [push_cast, c65, e, Nat.reduceAdd, Nat.reduceSub, Nat.reduceMul, Nat.reduceBEq, Int.reduceToNat, Int.reduceNeg, Int.reduceLE, Int.reduceLT, Int.reduceBEq, Int.reduceBNe, Int.reduceEq, Bool.not_true, Bool.not_false, eq_self, reduceCtorEq]
    rw [ho1]
    refine ⟨by omega, ⟨by omega, by omega⟩, ?_⟩
    refine awp_upto (tyP_ok _) c65 2000 [4, 6, 8, 9, 10, 11, 12, 13, 44, 45] (k) (fun c => ∀ c', c' < c → ¬ difP O Q p c') (fun c => R65 N O M Q z z' y y' (a, b) q0 i p 44 45 k c) (by kernel_rfl) ?_ ?_ ?_
    · simp (config := {implicitDefEqProofs := false, maxSteps := 4000000}) (disch := omega) only [push_cast, c65, R65, O65, Nat.reduceAdd, Nat.reduceSub, Nat.reduceMul, Nat.reduceBEq, Int.reduceToNat, Int.reduceNeg, Int.reduceLE, Int.reduceLT, Int.reduceBEq, Int.reduceBNe, Int.reduceEq, Bool.not_true, Bool.not_false, eq_self, reduceCtorEq]
    · exact fun c' h => by omega
    intro c hc hnc
    simp (config := {implicitDefEqProofs := false, maxSteps := 4000000}) (disch := omega) only [push_cast, c65, R65, O65, wayL_len, ho1, ho2, Nat.reduceAdd, Nat.reduceSub, Nat.reduceMul, Nat.reduceBEq, Int.reduceToNat, Int.reduceNeg, Int.reduceLE, Int.reduceLT, Int.reduceBEq, Int.reduceBNe, Int.reduceEq, Bool.not_true, Bool.not_false, eq_self, reduceCtorEq]
    refine ⟨fun hck => ⟨by omega, ⟨by omega, by omega⟩, hck, by omega, ⟨by omega, by omega⟩, hck, fun hd => ?_, fun hd => ⟨hck, upto_succ hnc fun h => h hd⟩⟩, fun hck => ?_⟩
    · refine callW_eq _ _ (f85 q0 (a, b) i c false hlt hinv.len hinv.tree (by omega)) ?_
      simp (config := {implicitDefEqProofs := false, maxSteps := 4000000}) (disch := omega) only [push_cast, c65, Nat.reduceAdd, Nat.reduceSub, Nat.reduceMul, Nat.reduceBEq, Int.reduceToNat, Int.reduceNeg, Int.reduceLE, Int.reduceLT, Int.reduceBEq, Int.reduceBNe, Int.reduceEq, Bool.not_true, Bool.not_false, eq_self, reduceCtorEq]
      have hd2 : difP O Q p c := hd
      refine .inl ⟨_, .inl ⟨i, c, Nat.lt_of_lt_of_le hlt hmore.len, hck, by rw [hmore.l1 i hlt, hp]; exact hd2, by rw [hmore.l1 i hlt, hp]; exact hnc, fun j c' hj hc' => by rw [hmore.l1 j (by omega)]; exact hnd j c' hj (by omega) hc', rfl, rfl⟩, ?_⟩
      rw [wordOf_more hmore hinv.tree hinv.len hlt]
    have hck2 : c = k := by omega
    subst hck2
    refine ⟨by omega, ⟨by omega, by omega⟩, ?_⟩
    refine awp_upto (tyP_ok _) c65 2000 [4, 6, 8, 9, 10, 11, 12, 13, 78, 79] (c) (fun _ => True) (fun x => R65 N O M Q z z' y y' (a, b) (inn (dltP N M) (a, b) i q0 x) i p 78 79 c x) (by kernel_rfl) ?_ ?_ ?_
    · simp (config := {implicitDefEqProofs := false, maxSteps := 4000000}) (disch := omega) only [push_cast, c65, R65, O65, Nat.reduceAdd, Nat.reduceSub, Nat.reduceMul, Nat.reduceBEq, Int.reduceToNat, Int.reduceNeg, Int.reduceLE, Int.reduceLT, Int.reduceBEq, Int.reduceBNe, Int.reduceEq, Bool.not_true, Bool.not_false, eq_self, reduceCtorEq]
      exact ⟨rfl, rfl⟩
    · trivial
    intro x hx _
    obtain ⟨hinv2, hle2⟩ := inn_inv hinv hlt x hx
    have hi2l : i < (inn (dltP N M) (a, b) i q0 x).1.length := by omega
    have hlen2 := pair_len hN hM ha hb hinv2
    have hsl := hinv2.len
    have hn1 : (N.getD p.1.toNat []).length = c := (hN.v.row _ (getD_mem' (by omega))).1
    have hn2 : (M.getD p.2.toNat []).length = c := (hM.v.row _ (getD_mem' (by omega))).1
    simp (config := {implicitDefEqProofs := false, maxSteps := 4000000}) (disch := omega) only [push_cast, c65, R65, O65, wayL_len, hn1, hn2, mapP_get, mapP_keys, Nat.reduceAdd, Nat.reduceSub, Nat.reduceMul, Nat.reduceBEq, Int.reduceToNat, Int.reduceNeg, Int.reduceLE, Int.reduceLT, Int.reduceBEq, Int.reduceBNe, Int.reduceEq, Bool.not_true, Bool.not_false, eq_self, reduceCtorEq]
    have hold := @inn_old _ _ (dltP N M) (a, b) i x q0
    have hnew := @inn_new _ _ (dltP N M) (a, b) i x q0
    have hpx : (inn (dltP N M) (a, b) i q0 x).1.getD i (a, b) = p := by
      rw [(inn_more (i := i) hinv.len x).1.l1 i hlt, hp]
    rw [hpx] at hold hnew
    have hdl : dltP N M p x = ((N.getD p.1.toNat []).getD x 0, (M.getD p.2.toNat []).getD x 0) := by simp [dltP, nxG]
    rw [hdl] at hold hnew
    refine ⟨fun hxk => ⟨by omega, ⟨by omega, by omega⟩, hxk, by omega, ⟨by omega, by omega⟩, hxk, fun hnm2 => ?_, fun hm2 => ?_⟩, fun hxk => ?_⟩
    · rw [hnew hnm2, mapP_put hnm2]
      refine ⟨⟨fun r hr v hv => ?_, by omega⟩, hxk, wayL_app (p := ((N.getD p.1.toNat []).getD x 0, (M.getD p.2.toNat []).getD x 0)) hsl, rfl⟩
      simp only [List.mem_singleton] at hr
      subst hr
      simp only [List.mem_cons, List.not_mem_nil, or_false] at hv
      rcases hv with rfl | rfl | rfl | rfl <;> rfl
    · rw [hold hm2]
      exact ⟨hxk, rfl, rfl⟩
    · have hxc : x = c := by omega
      subst hxc
      have hb2 : inn (dltP N M) (a, b) i q0 x = bfs (dltP N M) (a, b) x (i + 1) := by
        rw [bfs, hq0, if_pos hlt]
      have hl1 := (inn_more (δ := dltP N M) (s0 := (a, b)) (i := i) hinv.len x).1.l1
      rw [hb2] at hl1 hpx ⊢
      refine ⟨N.length * M.length - (i + 1), by omega, i + 1, by omega, fun j c' hj hjl hc' => ?_, rfl, by omega, rfl, rfl⟩
      by_cases hji : j < i
      · rw [hl1 j (by omega)]; exact hnd j c' hji (by omega) hc'
      · obtain rfl : j = i := by omega
        rw [hpx]; exact hnc c' hc'
  · refine .inr (.inr ⟨fun j c' hj hc' => ?_, rfl, rfl⟩)
    have hfin : finP N M a b k = q0 := by
      have := bfs_stop (δ := dltP N M) (s0 := (a, b)) (k := k) (i := i) (by rw [hq0]; omega) (N.length * M.length - i)
      rw [show i + (N.length * M.length - i) = N.length * M.length by omega, hq0] at this
      exact this
    rw [hfin] at hj ⊢
    exact hnd j c' (by omega) hj hc'
end Go.AM
end

/-! text Uk4 -/
section
namespace Go.AM
open Go Go.Proofs
/- mizmaze/mizmazeref07.Apart -/
def c50 : VCfg := ⟨⟨[], [], [], [0, 1, 2, 3, 4, 6, 8, 9, 10, 11, 12, 13, 14, 15, 16, 17, 18, 19, 45, 61, 89, 117]⟩, [(8, (.op 0 .loose (.op 1 .loose (.op 2 .loose (.op 3 .loose (.op 4 .loose (.op 5 .loose (.op 6 .loose (.op 7 .loose (.op 8 .loose (.op 9 .loose (.op 10 .loose (.op 11 .loose .nil))))))))))))), (13, (.op 0 .loose (.op 1 .loose (.op 2 .loose (.op 3 .loose (.op 4 .loose (.op 5 .loose (.op 6 .loose (.op 7 .loose (.op 8 .loose (.op 9 .loose (.op 10 .loose (.op 11 .loose (.op 12 .loose (.op 13 .loose (.op 14 .loose (.op 15 .loose (.op 16 .loose .nil)))))))))))))))))), (15, (.op 0 .loose (.op 1 .loose (.op 2 .loose (.op 3 .loose (.op 4 .loose (.op 5 .loose (.op 6 .loose (.op 7 .loose (.op 8 .loose (.op 9 .loose (.op 10 .loose (.op 11 .loose (.op 12 .loose (.op 13 .loose (.op 14 .loose (.op 15 .loose (.op 16 .loose (.op 17 .loose .nil)))))))))))))))))))], [], []⟩
def O50 (n m : Nat) (q : List (Int × Int) × Stp) : List AObj := [.arr (.gen 2 (pairL q)) ⟨97, false⟩, .arr (.rows (wordsL q)) ⟨37, false⟩, .arr (.bools (metL n m q.1)) ⟨4, false⟩]
def S50 (N O M Q : List (List Int)) (z z' y y' : Bool) (q : List (Int × Int) × Stp) (i : Nat) : St :=
  ⟨137, [(4, .fref [.pay (.rows N) z, .pay (.rows O) z']), (6, .fref [.pay (.rows M) y, .pay (.rows Q) y']), (8, .pay (.ints .i64 []) true), (9, .bool false), (10, .own 0), (11, .own 1), (12, .own 2), (13, .int .i64 i)], O50 N.length M.length q⟩
def R50 (N O M Q : List (List Int)) (z z' y y' : Bool) (q : List (Int × Int) × Stp) (i : Nat) (p : Int × Int) (c : Nat) : St :=
  ⟨137, [(4, .fref [.pay (.rows N) z, .pay (.rows O) z']), (6, .fref [.pay (.rows M) y, .pay (.rows Q) y']), (8, .pay (.ints .i64 []) true), (9, .bool false), (10, .own 0), (11, .own 1), (12, .own 2), (13, .int .i64 i), (14, .int .i64 p.1), (15, .int .i64 p.2), (16, .int .i64 c)], O50 N.length M.length q⟩
set_option maxHeartbeats 4000000 in
set_option maxRecDepth 100000 in
theorem f50 (N O M Q : List (List Int)) (z z' y y' : Bool) (a b : Int) (k : Nat) (hN : VM N O k) (hM : VM M Q k) (ha : 0 ≤ a ∧ a < N.length) (hb : 0 ≤ b ∧ b < M.length) :
    ACall Try.prog 50 [.agg [.pay (.rows (N)) (z), .pay (.rows (O)) (z')], .int .i64 a, .agg [.pay (.rows (M)) (y), .pay (.rows (Q)) (y')], .int .i64 b] (fun r objs => ∃ w ok nz, TellR N O M Q a b k w ok ∧ r = .tup [.pay (.ints .i64 w) nz, .bool ok] ∧ objs = []) := by
  suffices h : ACall Try.prog 50 [.agg [.pay (.rows (N)) (z), .pay (.rows (O)) (z')], .int .i64 a, .agg [.pay (.rows (M)) (y), .pay (.rows (Q)) (y')], .int .i64 b] (fun r objs => (∃ w, TellR N O M Q a b k w true ∧ r = .tup [.own 0, .bool true] ∧ objs = [.arr (.ints .i64 w) ⟨3, false⟩]) ∨ (TellR N O M Q a b k [] false ∧ r = .tup [.pay (.ints .i64 []) true, .bool false] ∧ objs = [])) by
    refine h.frz ?_
    rintro r objs (⟨w, h1, rfl, rfl⟩ | ⟨h1, rfl, rfl⟩)
    · exact ⟨[0], _, 1, rfl, w, true, _, h1, rfl, rfl⟩
    · exact ⟨[], _, 0, rfl, [], false, _, h1, rfl, rfl⟩
  have hn := hN.v.n2
  have hm := hM.v.n2
  have hk2 := hN.v.k2
  have hnm : N.length * M.length ≤ 3600 := Nat.mul_le_mul hn hm
  have hnmI : (N.length : Int) * (M.length : Int) = ((N.length * M.length : Nat) : Int) := by simp
  have ham := mul_60 (n := M.length) ha.1 (by omega) hm
  have hnum : (a * (M.length : Int) + b).toNat = numP M.length (a, b) := numP_int (n := M.length) (p := (a, b)) ha.1 hb.1
  have hnlt : numP M.length (a, b) < N.length * M.length := mul_lt' (by simp only; omega) (by simp only; omega)
  have hnlt2 : a * (M.length : Int) + b < ((N.length * M.length : Nat) : Int) := by
    have : ((numP M.length (a, b) : Nat) : Int) < ((N.length * M.length : Nat) : Int) := by omega
    rw [← hnum] at this; omega
  refine acall_intro (tyP_ok _) c50 2000 [.tmp 8, .tmp 9] Try.func50 rfl (by rfl) rfl (by kernel_rfl) ?_
  unfold Try.f50
  simp (config := {implicitDefEqProofs := false, maxSteps := 4000000}) (disch := omega) only [push_cast, c50, Nat.reduceAdd, Nat.reduceSub, Nat.reduceMul, Nat.reduceBEq, Int.reduceToNat, Int.reduceNeg, Int.reduceLE, Int.reduceLT, Int.reduceBEq, Int.reduceBNe, Int.reduceEq, Bool.not_true, Bool.not_false, eq_self, reduceCtorEq]
  rw [hnmI, Int.toNat_natCast, hnum, ← metL_nil, metL_set, metL_len]
  refine ⟨⟨by omega, by omega, by omega⟩, ⟨by omega, hnlt2⟩, ?_⟩
  refine awp_loop (tyP_ok _) c50 2000 [4, 6, 8, 9, 10, 11, 12, 13] (fun n g st => ∃ i : Nat, g = (false, 0) ∧ i ≤ N.length * M.length ∧ (∀ j c, j < i → j < (bfs (dltP N M) (a, b) k i).1.length → c < k → ¬ difP O Q ((bfs (dltP N M) (a, b) k i).1.getD j (a, b)) c) ∧ n = N.length * M.length - i ∧ st = S50 N O M Q z z' y y' (bfs (dltP N M) (a, b) k i) i) (N.length * M.length) (by kernel_rfl) ?_ ?_
  · simp (config := {implicitDefEqProofs := false, maxSteps := 4000000}) (disch := omega) only [push_cast, c50, S50, O50, Nat.reduceAdd, Nat.reduceSub, Nat.reduceMul, Nat.reduceBEq, Int.reduceToNat, Int.reduceNeg, Int.reduceLE, Int.reduceLT, Int.reduceBEq, Int.reduceBNe, Int.reduceEq, Bool.not_true, Bool.not_false, eq_self, reduceCtorEq]
    refine ⟨0, Nat.zero_le _, fun j c h => by omega, rfl, ?_⟩
    simp [bfs, pairL, wordsL, wordOf, upW, List.range_succ]
  rintro n g st ⟨i, rfl, hi, hnd, rfl, rfl⟩
  have hinv := bfs_inv (δ := dltP N M) (s0 := (a, b)) (k := k) i
  have hbd := pair_len hN hM ha hb hinv
  have hin := pair_in hN hM ha hb hinv
  have hmore : More (a, b) (bfs (dltP N M) (a, b) k i) (finP N M a b k) := by
    have := bfs_more (δ := dltP N M) (s0 := (a, b)) (k := k) (i := i) (N.length * M.length - i)
    rwa [show i + (N.length * M.length - i) = N.length * M.length by omega] at this
  generalize hq0 : bfs (dltP N M) (a, b) k i = q0 at *
  simp (config := {implicitDefEqProofs := false, maxSteps := 4000000}) (disch := omega) only [push_cast, c50, S50, O50, pairL_len, Nat.reduceAdd, Nat.reduceSub, Nat.reduceMul, Nat.reduceBEq, Int.reduceToNat, Int.reduceNeg, Int.reduceLE, Int.reduceLT, Int.reduceBEq, Int.reduceBNe, Int.reduceEq, Bool.not_true, Bool.not_false, eq_self, reduceCtorEq]
  refine ⟨fun hlt => ⟨hlt, ?_⟩, fun hge => ?_⟩
  · have hgp := pairL_get (d := (a, b)) hlt
    obtain ⟨⟨hp1, hp2⟩, hp3, hp4⟩ := hin i hlt
    have hol := hN.ol
    have hql := hM.ol
    generalize hp : q0.1.getD i (a, b) = p at *
    have ho1 : (O.getD p.1.toNat []).length = k := (hN.orow _ (getD_mem' (by omega))).1
    have ho2 : (Q.getD p.2.toNat []).length = k := (hM.orow _ (getD_mem' (by omega))).1
    have hn1 : (N.getD p.1.toNat []).length = k := (hN.v.row _ (getD_mem' (by omega))).1
    have hn2 : (M.getD p.2.toNat []).length = k := (hM.v.row _ (getD_mem' (by omega))).1
    simp (config := {implicitDefEqProofs := false, maxSteps := 4000000}) (disch := omega) only [push_cast, c50, hgp, pairL_len, Nat.reduceAdd, Nat.reduceSub, Nat.reduceMul, Nat.reduceBEq, Int.reduceToNat, Int.reduceNeg, Int.reduceLE, Int.reduceLT, Int.reduceBEq, Int.reduceBNe, Int.reduceEq, Bool.not_true, Bool.not_false, eq_self, reduceCtorEq]
    refine ⟨hlt, ?_⟩
    refine awp_upto (tyP_ok _) c50 2000 [4, 6, 8, 9, 10, 11, 12, 13, 14, 15, 16] (k) (fun c => ∀ c', c' < c → ¬ difP O Q p c') (fun c => R50 N O M Q z z' y y' (inn (dltP N M) (a, b) i q0 c) i p c) (by kernel_rfl) ?_ ?_ ?_
    · simp (config := {implicitDefEqProofs := false, maxSteps := 4000000}) (disch := omega) only [push_cast, c50, R50, O50, Nat.reduceAdd, Nat.reduceSub, Nat.reduceMul, Nat.reduceBEq, Int.reduceToNat, Int.reduceNeg, Int.reduceLE, Int.reduceLT, Int.reduceBEq, Int.reduceBNe, Int.reduceEq, Bool.not_true, Bool.not_false, eq_self, reduceCtorEq]
      exact ⟨rfl, rfl, rfl⟩
    · exact fun c' h => by omega
    intro c hc hnc
    obtain ⟨hinv2, hle2⟩ := inn_inv hinv hlt c hc
    have hi2l : i < (inn (dltP N M) (a, b) i q0 c).1.length := by omega
    have hlen2 := pair_len hN hM ha hb hinv2
    have hsl := hinv2.len
    have hall := BInv.all hN hM ha hb hinv2
    have hold := @inn_old _ _ (dltP N M) (a, b) i c q0
    have hnew := @inn_new _ _ (dltP N M) (a, b) i c q0
    have hm2 := (inn_more (δ := dltP N M) (s0 := (a, b)) (i := i) hinv.len c).1
    have hpx : (inn (dltP N M) (a, b) i q0 c).1.getD i (a, b) = p := by rw [hm2.l1 i hlt, hp]
    have hwx : wordOf (inn (dltP N M) (a, b) i q0 c).2 i = wordOf q0.2 i := wordOf_more hm2 hinv.tree hinv.len hlt
    rw [hpx] at hold hnew
    have hdl : dltP N M p c = ((N.getD p.1.toNat []).getD c 0, (M.getD p.2.toNat []).getD c 0) := by simp [dltP, nxG]
    rw [hdl] at hold hnew
    have hwg := wordsL_get hi2l
    have hwl := wordOf_len hinv2.tree i (by omega)
    simp (config := {implicitDefEqProofs := false, maxSteps := 4000000}) (disch := omega) only [push_cast, c50, R50, O50, Nat.reduceAdd, Nat.reduceSub, Nat.reduceMul, Nat.reduceBEq, Int.reduceToNat, Int.reduceNeg, Int.reduceLE, Int.reduceLT, Int.reduceBEq, Int.reduceBNe, Int.reduceEq, Bool.not_true, Bool.not_false, eq_self, reduceCtorEq]
    refine callW_eq _ _ (f26 N O z z' (by have := hN.v.n1; omega)) ?_
    rw [hN.k0]
    simp (config := {implicitDefEqProofs := false, maxSteps := 4000000}) (disch := omega) only [push_cast, c50, R50, O50, pairL_len, wordsL_len, metL_len, ho1, ho2, hn1, hn2, hwg, Nat.reduceAdd, Nat.reduceSub, Nat.reduceMul, Nat.reduceBEq, Int.reduceToNat, Int.reduceNeg, Int.reduceLE, Int.reduceLT, Int.reduceBEq, Int.reduceBNe, Int.reduceEq, Bool.not_true, Bool.not_false, eq_self, reduceCtorEq]
    refine ⟨fun hck => ?_, fun hck => ?_⟩
    · have hu : 0 ≤ (N.getD p.1.toNat []).getD c 0 ∧ (N.getD p.1.toNat []).getD c 0 < N.length := by
        have := hN.nx hp1 hp2 hck
        simpa [nxG] using this
      have hv : 0 ≤ (M.getD p.2.toNat []).getD c 0 ∧ (M.getD p.2.toNat []).getD c 0 < M.length := by
        have := hM.nx hp3 hp4 hck
        simpa [nxG] using this
      generalize (N.getD p.1.toNat []).getD c 0 = u at *
      generalize (M.getD p.2.toNat []).getD c 0 = v at *
      have huv := mul_60 (n := M.length) hu.1 (by omega) hm
      have hnum2 : (u * (M.length : Int) + v).toNat = numP M.length (u, v) := numP_int (n := M.length) (p := (u, v)) hu.1 hv.1
      have hlt3 : numP M.length (u, v) < N.length * M.length := mul_lt' (by simp only; omega) (by simp only; omega)
      have hgm := metL_get (p := (u, v)) hall ⟨hu, hv⟩
      rw [wrap_in (n := u * (M.length : Int)) (by omega), wrap_in (by omega), hnum2, hgm, hnmI, hwx]
      rw [hwx] at hwl
      have hrng : 0 ≤ u * (M.length : Int) + v ∧ u * (M.length : Int) + v < ((N.length * M.length : Nat) : Int) := by omega
      refine ⟨hi2l, by omega, by omega, ⟨hp1, by omega⟩, hck, ⟨hp3, by omega⟩, hck, fun hd => ?_, fun he => ⟨⟨hp1, hp2⟩, hck, ⟨hp3, hp4⟩, hck, hrng, fun hnew2 => ⟨hrng, ⟨fun r hr v' hv' => ?_, by omega⟩, by omega, hck, ?_, ?_⟩, fun hold2 => ⟨hck, ?_, ?_⟩⟩⟩
      · have hd2 : difP O Q p c := by simpa [difP, outG] using hd
        exact .inl ⟨_, .inl ⟨i, c, Nat.lt_of_lt_of_le hlt hmore.len, hck, by rw [hmore.l1 i hlt, hp]; exact hd2, by rw [hmore.l1 i hlt, hp]; exact hnc, fun j c' hj hc' => by rw [hmore.l1 j (by omega)]; exact hnd j c' hj (by omega) hc', by rw [wordOf_more hmore hinv.tree hinv.len hlt], rfl⟩, rfl⟩
      · simp only [List.mem_singleton] at hr
        subst hr
        simp only [List.mem_cons, List.not_mem_nil, or_false] at hv'
        rcases hv' with rfl | rfl <;> rfl
      · exact upto_succ hnc fun h => h (by simpa [outG] using he)
      · have hnot : (u, v) ∉ (inn (dltP N M) (a, b) i q0 c).1 := of_decide_eq_false hnew2
        rw [hnew hnot]
        refine ⟨pairL_app _ (u, v) _, ?_, metL_set⟩
        rw [← hwx]
        exact wordsL_app hsl hinv2.tree hi2l
      · exact upto_succ hnc fun h => h (by simpa [outG] using he)
      · rw [hold (of_decide_eq_true hold2)]
        exact ⟨rfl, rfl, rfl⟩
    · have hck2 : c = k := by omega
      subst hck2
      have hb2 : inn (dltP N M) (a, b) i q0 c = bfs (dltP N M) (a, b) c (i + 1) := by
        rw [bfs, hq0, if_pos hlt]
      have hl1 := hm2.l1
      rw [hb2] at hl1 hpx ⊢
      refine ⟨N.length * M.length - (i + 1), by omega, i + 1, by omega, fun j c' hj hjl hc' => ?_, rfl, by omega, rfl, rfl, rfl⟩
      by_cases hji : j < i
      · rw [hl1 j (by omega)]; exact hnd j c' hji (by omega) hc'
      · obtain rfl : j = i := by omega
        rw [hpx]; exact hnc c' hc'
  · refine .inr (.inr ⟨fun j c' hj hc' => ?_, rfl, rfl⟩)
    have hfin : finP N M a b k = q0 := by
      have := bfs_stop (δ := dltP N M) (s0 := (a, b)) (k := k) (i := i) (by rw [hq0]; omega) (N.length * M.length - i)
      rw [show i + (N.length * M.length - i) = N.length * M.length by omega, hq0] at this
      exact this
    rw [hfin] at hj ⊢
    exact hnd j c' (by omega) hj hc'
end Go.AM
end

/-! text Uk5 -/
section
namespace Go.AM
open Go Go.Proofs
theorem TellR.nil {N O M Q : List (List Int)} {x y : Int} {k : Nat} {w : List Int} (h : TellR N O M Q x y k w false) : w = [] := by
  rcases h with ⟨_, _, _, _, _, _, _, _, h⟩ | ⟨_, h, _⟩
  · cases h
  · exact h
/-- what Equal answers -/
def EqualR (N O M Q : List (List Int)) (x y : Int) (is : Bool) (w : List Int) (e : Int) : Prop :=
  (¬ (vmB N O = true ∧ vmB M Q = true) ∧ e = 1 ∧ is = false ∧ w = []) ∨
  ((vmB N O = true ∧ vmB M Q = true) ∧ ¬ ((0 ≤ x ∧ x < N.length) ∧ (0 ≤ y ∧ y < M.length) ∧ (N.getD 0 []).length = (M.getD 0 []).length) ∧ e = 2 ∧ is = false ∧ w = []) ∨
  ((vmB N O = true ∧ vmB M Q = true) ∧ ((0 ≤ x ∧ x < N.length) ∧ (0 ≤ y ∧ y < M.length) ∧ (N.getD 0 []).length = (M.getD 0 []).length) ∧ TellR N O M Q x y (N.getD 0 []).length w (!is) ∧ e = 0)
/- mizmaze/mealy.Equal -/
def c29 : VCfg := ⟨⟨[], [], [], [0, 1, 2, 3, 4, 6, 8, 9, 10, 11, 12, 13, 22]⟩, [(3, (.op 0 .loose (.op 2 .loose (.op 1 .eff (.op 3 .eff (.op 4 .loose (.op 5 .loose (.op 6 .loose (.op 8 .loose (.op 7 .eff (.op 9 .eff (.op 10 .loose (.op 11 .loose (.op 12 .loose (.op 13 .loose (.op 14 .loose (.op 15 .loose (.op 16 .loose (.op 17 .loose (.op 18 .loose (.op 19 .loose (.op 20 .loose (.op 21 .loose (.op 22 .loose (.op 23 .loose (.op 24 .loose (.op 25 .loose .nil)))))))))))))))))))))))))))], [], []⟩
set_option maxRecDepth 100000 in
theorem f29 (N O M Q : List (List Int)) (z z' u u' : Bool) (x y : Int) (hl : N.length ≤ 4611686018427387904) (hl2 : ∀ r ∈ N, r.length ≤ 4611686018427387904) (ho : O.length ≤ 4611686018427387904) (ho2 : ∀ r ∈ O, r.length ≤ 4611686018427387904)
    (hm : M.length ≤ 4611686018427387904) (hm2 : ∀ r ∈ M, r.length ≤ 4611686018427387904) (hq : Q.length ≤ 4611686018427387904) (hq2 : ∀ r ∈ Q, r.length ≤ 4611686018427387904) :
    ACall Try.prog 29 [.agg [.pay (.rows (N)) (z), .pay (.rows (O)) (z')], .int .i64 x, .agg [.pay (.rows (M)) (u), .pay (.rows (Q)) (u')], .int .i64 y] (fun r objs => ∃ is w e nz, EqualR N O M Q x y is w e ∧ r = .tup [.bool is, .pay (.ints .i64 w) nz, .int .i64 e] ∧ objs = []) := by
  refine acall_intro (tyP_ok _) c29 2000 [.tmp 8, .tmp 9, .tmp 10] Try.func29 rfl (by rfl) rfl (by kernel_rfl) ?_
  unfold Try.f29
  simp (config := {implicitDefEqProofs := false, maxSteps := 4000000}) (disch := omega) only [push_cast, c29, Nat.reduceAdd, Nat.reduceSub, Nat.reduceMul, Nat.reduceBEq, Int.reduceToNat, Int.reduceNeg, Int.reduceLE, Int.reduceLT, Int.reduceBEq, Int.reduceBNe, Int.reduceEq, Bool.not_true, Bool.not_false, eq_self, reduceCtorEq]
  refine callW_eq _ _ (f55 N O z z' hl hl2 ho ho2) ?_
  simp (config := {implicitDefEqProofs := false, maxSteps := 4000000}) (disch := omega) only [push_cast, c29, Nat.reduceAdd, Nat.reduceSub, Nat.reduceMul, Nat.reduceBEq, Int.reduceToNat, Int.reduceNeg, Int.reduceLE, Int.reduceLT, Int.reduceBEq, Int.reduceBNe, Int.reduceEq, Bool.not_true, Bool.not_false, eq_self, reduceCtorEq]
  refine ⟨fun hv => ⟨_, _, _, _, .inl ⟨fun h => (by rw [h.1] at hv; cases hv), rfl, rfl, rfl⟩, rfl, ⟨rfl, rfl⟩, rfl⟩, fun hv => ?_⟩
  refine callW_eq _ _ (f55 M Q u u' hm hm2 hq hq2) ?_
  simp (config := {implicitDefEqProofs := false, maxSteps := 4000000}) (disch := omega) only [push_cast, c29, Nat.reduceAdd, Nat.reduceSub, Nat.reduceMul, Nat.reduceBEq, Int.reduceToNat, Int.reduceNeg, Int.reduceLE, Int.reduceLT, Int.reduceBEq, Int.reduceBNe, Int.reduceEq, Bool.not_true, Bool.not_false, eq_self, reduceCtorEq]
  refine ⟨fun hw => ⟨_, _, _, _, .inl ⟨fun h => (by rw [h.2] at hw; cases hw), rfl, rfl, rfl⟩, rfl, ⟨rfl, rfl⟩, rfl⟩, fun hw => ?_⟩
  have hV := vmB_iff.1 hv
  have hW := vmB_iff.1 hw
  have hn0 := hV.v.n1
  have hm0 := hW.v.n1
  refine callW_eq _ _ (f59 N O z z') ?_
  simp (config := {implicitDefEqProofs := false, maxSteps := 4000000}) (disch := omega) only [push_cast, c29, Nat.reduceAdd, Nat.reduceSub, Nat.reduceMul, Nat.reduceBEq, Int.reduceToNat, Int.reduceNeg, Int.reduceLE, Int.reduceLT, Int.reduceBEq, Int.reduceBNe, Int.reduceEq, Bool.not_true, Bool.not_false, eq_self, reduceCtorEq]
  refine callW_eq _ _ (f64 N z x) ?_
  simp (config := {implicitDefEqProofs := false, maxSteps := 4000000}) (disch := omega) only [push_cast, c29, Nat.reduceAdd, Nat.reduceSub, Nat.reduceMul, Nat.reduceBEq, Int.reduceToNat, Int.reduceNeg, Int.reduceLE, Int.reduceLT, Int.reduceBEq, Int.reduceBNe, Int.reduceEq, Bool.not_true, Bool.not_false, eq_self, reduceCtorEq]
  refine ⟨fun hx => ⟨_, _, _, _, .inr (.inl ⟨⟨hv, hw⟩, fun h => hx h.1, rfl, rfl, rfl⟩), rfl, ⟨rfl, rfl⟩, rfl⟩, fun hx => ?_⟩
  refine callW_eq _ _ (f59 M Q u u') ?_
  simp (config := {implicitDefEqProofs := false, maxSteps := 4000000}) (disch := omega) only [push_cast, c29, Nat.reduceAdd, Nat.reduceSub, Nat.reduceMul, Nat.reduceBEq, Int.reduceToNat, Int.reduceNeg, Int.reduceLE, Int.reduceLT, Int.reduceBEq, Int.reduceBNe, Int.reduceEq, Bool.not_true, Bool.not_false, eq_self, reduceCtorEq]
  refine callW_eq _ _ (f64 M u y) ?_
  simp (config := {implicitDefEqProofs := false, maxSteps := 4000000}) (disch := omega) only [push_cast, c29, Nat.reduceAdd, Nat.reduceSub, Nat.reduceMul, Nat.reduceBEq, Int.reduceToNat, Int.reduceNeg, Int.reduceLE, Int.reduceLT, Int.reduceBEq, Int.reduceBNe, Int.reduceEq, Bool.not_true, Bool.not_false, eq_self, reduceCtorEq]
  refine ⟨fun hy => ⟨_, _, _, _, .inr (.inl ⟨⟨hv, hw⟩, fun h => hy h.2.1, rfl, rfl, rfl⟩), rfl, ⟨rfl, rfl⟩, rfl⟩, fun hy => ⟨by omega, by omega, fun hk => ⟨_, _, _, _, .inr (.inl ⟨⟨hv, hw⟩, fun h => hk h.2.2, rfl, rfl, rfl⟩), rfl, ⟨rfl, rfl⟩, rfl⟩, fun hk => ?_⟩⟩
  refine callW_rel (f65 N O M Q z z' u u' x y _ hV (by rw [hk]; exact hW) hx hy) ?_
  rintro R O' ⟨w, ok, nz, hT, rfl, rfl⟩
  simp (config := {implicitDefEqProofs := false, maxSteps := 4000000}) (disch := omega) only [push_cast, c29, Nat.reduceAdd, Nat.reduceSub, Nat.reduceMul, Nat.reduceBEq, Int.reduceToNat, Int.reduceNeg, Int.reduceLE, Int.reduceLT, Int.reduceBEq, Int.reduceBNe, Int.reduceEq, Bool.not_true, Bool.not_false, eq_self, reduceCtorEq]
  exact ⟨_, _, _, _, .inr (.inr ⟨⟨hv, hw⟩, ⟨hx, hy, hk⟩, by simpa using hT, rfl⟩), rfl, ⟨rfl, rfl⟩, rfl⟩
end Go.AM
end

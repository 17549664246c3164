/-
  Contracts of the reference's classes, of Reached and of sorting words; conditions in each statement.
-/
import Derived.Test.YtdfocobojkmenaaS3
import Derived.Test.YtdfocobojkmenaaP2
import Derived.Test.YtdfocobojkmenaaP3
import Derived.Test.YtdfocobojkmenaaSh
import Derived.Test.YtdfocobojkmenaaF6
import Derived.Shelf.SlSortCmp.NoneTotal
set_option linter.unusedVariables false
set_option linter.unusedSimpArgs false
set_option linter.unusedSectionVars false
set_option linter.unnecessarySimpa false

/-! text Uk10 -/
section
namespace Go.AM
open Go Go.Proofs
/-- the numbers so far -/
def outL (E : Nat → Nat → Bool) (n s : Nat) (v : Int) : List Int := (List.range n).map fun t => if t < s then ((numF E t : Nat) : Int) else if t = s then v else 0
theorem outL_len (E : Nat → Nat → Bool) (n s : Nat) (v : Int) : (outL E n s v).length = n := by simp [outL]
theorem outL_lt {E : Nat → Nat → Bool} {n s t : Nat} {v : Int} (h : t < s) (hn : t < n) : (outL E n s v).getD t 0 = ((numF E t : Nat) : Int) := by simp [outL, List.getD, hn, h]
theorem outL_at {E : Nat → Nat → Bool} {n s : Nat} {v : Int} (hn : s < n) : (outL E n s v).getD s 0 = v := by simp [outL, List.getD, hn]
theorem outL_set {E : Nat → Nat → Bool} {n s : Nat} {v u : Int} : (outL E n s v).set s u = outL E n s u := by
  refine List.ext_getElem (by simp [outL]) fun i h1 h2 => ?_
  simp only [List.getElem_set, outL, List.getElem_map, List.getElem_range]
  by_cases e : s = i
  · subst e; simp
  · rw [if_neg e]
    by_cases e2 : i < s
    · simp [e2]
    · simp [e2, show ¬ i = s from fun h => e h.symm]
theorem outL_next {E : Nat → Nat → Bool} {n s : Nat} : outL E n s ((numF E s : Nat) : Int) = outL E n (s + 1) 0 := by
  refine List.ext_getElem (by simp [outL]) fun i h1 h2 => ?_
  simp only [outL, List.getElem_map, List.getElem_range]
  by_cases e : i < s
  · rw [if_pos e, if_pos (by omega)]
  · rw [if_neg e]
    by_cases e2 : i = s
    · subst e2; rw [if_pos rfl, if_pos (by omega)]
    · rw [if_neg e2, if_neg (by omega)]; split <;> rfl
theorem outL_zero (E : Nat → Nat → Bool) (n : Nat) : List.replicate n 0 = outL E n 0 0 := by
  refine List.ext_getElem (by simp [outL]) fun i h1 h2 => by simp [outL]
theorem outL_all {N O : List (List Int)} {k : Nat} {c : List Int} : outL (keyE (kF N O k c)) N.length N.length 0 = nextC N O k c := by
  refine List.ext_getElem (by simp [outL, nextC]) fun i h1 h2 => ?_
  have : i < N.length := by simpa [outL] using h1
  simp [outL, nextC, this]
def alk (N O : List (List Int)) (c : List Int) (s t x : Nat) : Bool := (List.range x).all fun y => decide (outG O s y = outG O t y ∧ c.getD (nxG N s y).toNat 0 = c.getD (nxG N t y).toNat 0)
theorem alk_succ {N O : List (List Int)} {c : List Int} {s t x : Nat} : alk N O c s t (x + 1) = (alk N O c s t x && decide (outG O s x = outG O t x ∧ c.getD (nxG N s x).toNat 0 = c.getD (nxG N t x).toNat 0)) := by
  simp [alk, List.range_succ]
theorem alk_key {N O : List (List Int)} {c : List Int} {s t k : Nat} : alk N O c s t k = keyE (kF N O k c) s t := by
  rw [Bool.eq_iff_iff]
  simp only [alk, List.all_eq_true, List.mem_range, decide_eq_true_eq, keyE, kF_eq]
/-- what stands at s while the states below t have been looked at -/
def curV (E : Nat → Nat → Bool) (s t : Nat) : Int := if fstF E s < t then ((numF E s : Nat) : Int) else ((cntF E s : Nat) : Int)
/- mizmaze/mizmazeref07.finer -/
def c90 : VCfg := ⟨⟨[], [], [], [0, 1, 2, 4, 5, 6, 7, 8, 9, 10, 17, 34, 44, 92, 105]⟩, [(14, (.op 0 .loose (.op 1 .loose (.op 2 .loose (.op 3 .loose (.op 4 .loose (.op 5 .loose (.op 6 .loose (.op 7 .loose (.op 8 .loose (.op 9 .loose (.op 10 .loose (.op 11 .loose (.op 12 .loose (.op 13 .loose (.op 14 .loose (.op 15 .loose (.op 16 .loose (.op 17 .loose (.op 18 .loose (.op 19 .loose (.op 20 .loose (.op 21 .loose (.op 22 .loose (.op 23 .loose (.op 24 .loose (.op 25 .loose (.op 26 .loose (.op 27 .loose (.op 28 .loose (.op 29 .loose (.op 30 .loose (.op 31 .loose (.op 32 .loose (.op 33 .loose (.op 34 .loose (.op 35 .loose (.op 36 .loose (.op 37 .loose (.op 38 .loose (.op 39 .loose (.op 40 .loose (.op 41 .loose (.op 42 .loose (.op 43 .loose (.op 44 .loose (.op 45 .loose .nil)))))))))))))))))))))))))))))))))))))))))))))))], [], []⟩
set_option maxHeartbeats 4000000 in
set_option maxRecDepth 100000 in
theorem f90 (N O : List (List Int)) (z z' y : Bool) (c : List Int) (k : Nat) (hV : VM N O k) (hc : c.length = N.length) :
    ACall Try.prog 90 [.agg [.pay (.rows (N)) (z), .pay (.rows (O)) (z')], .pay (.ints .i64 c) y] (fun r objs => r = .pay (.ints .i64 (nextC N O k c)) false ∧ objs = []) := by
  suffices h : ACall Try.prog 90 [.agg [.pay (.rows (N)) (z), .pay (.rows (O)) (z')], .pay (.ints .i64 c) y] (fun r objs => r = .own 0 ∧ objs = [.arr (.ints .i64 (nextC N O k c)) ⟨3, false⟩]) by
    refine h.frz ?_
    rintro r objs ⟨rfl, rfl⟩
    exact ⟨[0], _, 1, rfl, rfl, rfl⟩
  have hn := hV.v.n2
  have hk2 := hV.v.k2
  have hol := hV.ol
  have hall := outL_all (N := N) (O := O) (k := k) (c := c)
  generalize hE : keyE (kF N O k c) = E at hall
  refine acall_intro (tyP_ok _) c90 2000 [.tmp 4] Try.func90 rfl (by rfl) rfl (by kernel_rfl) ?_
  unfold Try.f90
  simp (config := {implicitDefEqProofs := false, maxSteps := 4000000}) (disch := omega) only [push_cast, c90, Nat.reduceAdd, Nat.reduceSub, Nat.reduceMul, Nat.reduceBEq, Int.reduceToNat, Int.reduceNeg, Int.reduceLE, Int.reduceLT, Int.reduceBEq, Int.reduceBNe, Int.reduceEq, Bool.not_true, Bool.not_false, eq_self, reduceCtorEq]
  refine ⟨by omega, ?_⟩
  refine awp_upto (tyP_ok _) c90 2000 [1, 2, 4, 5, 6, 7] (N.length) (fun _ => True) (fun s => ⟨109, [(1, .pay (.ints .i64 c) y), (2, .fref [.pay (.rows N) z, .pay (.rows O) z']), (4, .pay (.ints .i64 []) true), (5, .own 0), (6, .int .i64 (cntF E s)), (7, .int .i64 s)], [.arr (.ints .i64 (outL E N.length s 0)) ⟨3, false⟩]⟩) (by kernel_rfl) ?_ ?_ ?_
  · rw [hc, outL_zero E]; simp (config := {implicitDefEqProofs := false, maxSteps := 4000000}) (disch := omega) only [push_cast, c90, Nat.reduceAdd, Nat.reduceSub, Nat.reduceMul, Nat.reduceBEq, Int.reduceToNat, Int.reduceNeg, Int.reduceLE, Int.reduceLT, Int.reduceBEq, Int.reduceBNe, Int.reduceEq, Bool.not_true, Bool.not_false, eq_self, reduceCtorEq]
    rfl
  · trivial
  intro s hs _
  have hcE := cntF_le E s
  simp (config := {implicitDefEqProofs := false, maxSteps := 4000000}) (disch := omega) only [push_cast, c90, outL_len, Nat.reduceAdd, Nat.reduceSub, Nat.reduceMul, Nat.reduceBEq, Int.reduceToNat, Int.reduceNeg, Int.reduceLE, Int.reduceLT, Int.reduceBEq, Int.reduceBNe, Int.reduceEq, Bool.not_true, Bool.not_false, eq_self, reduceCtorEq]
  refine ⟨fun hlt => ?_, fun hge => ?_⟩
  · have hlt2 : s < N.length := by omega
    have hrow := hV.v.row _ (getD_mem' hlt2)
    have hro : (O.getD s []).length = k := (hV.orow _ (getD_mem' (show s < O.length by omega))).1
    rw [outL_set]
    refine ⟨hlt2, ?_⟩
    have hf1 := fstF_le E s
    have hfi : isF E (fstF E s) = true := by rw [← hE]; exact fstF_isF s
    have hcur0 : ((cntF E s : Nat) : Int) = curV E s 0 := by unfold curV; rw [if_neg (by omega)]
    have hnum : fstF E s < s → ((numF E s : Nat) : Int) < ((cntF E s : Nat) : Int) := fun h => by
      have : numF E s < cntF E s := cntF_lt h hfi
      omega
    rw [hcur0]
    refine awp_upto (tyP_ok _) c90 2000 [1, 2, 4, 5, 6, 7, 8] (s) (fun t => t ≤ fstF E s + 1) (fun t => ⟨109, [(1, .pay (.ints .i64 c) y), (2, .fref [.pay (.rows N) z, .pay (.rows O) z']), (4, .pay (.ints .i64 []) true), (5, .own 0), (6, .int .i64 (cntF E s)), (7, .int .i64 s), (8, .int .i64 t)], [.arr (.ints .i64 (outL E N.length s (curV E s t))) ⟨3, false⟩]⟩) (by kernel_rfl) ?_ ?_ ?_
    · rw [← hcur0]; simp (config := {implicitDefEqProofs := false, maxSteps := 4000000}) (disch := omega) only [push_cast, c90, Nat.reduceAdd, Nat.reduceSub, Nat.reduceMul, Nat.reduceBEq, Int.reduceToNat, Int.reduceNeg, Int.reduceLE, Int.reduceLT, Int.reduceBEq, Int.reduceBNe, Int.reduceEq, Bool.not_true, Bool.not_false, eq_self, reduceCtorEq]
    · exact Nat.zero_le _
    intro t ht htf
    have hat := outL_at (E := E) (v := curV E s t) hlt2
    simp (config := {implicitDefEqProofs := false, maxSteps := 4000000}) (disch := omega) only [push_cast, c90, outL_len, hat, Nat.reduceAdd, Nat.reduceSub, Nat.reduceMul, Nat.reduceBEq, Int.reduceToNat, Int.reduceNeg, Int.reduceLE, Int.reduceLT, Int.reduceBEq, Int.reduceBNe, Int.reduceEq, Bool.not_true, Bool.not_false, eq_self, reduceCtorEq]
    have hexit : (s ≤ t ∨ ¬ curV E s t = ((cntF E s : Nat) : Int)) → curV E s t = ((numF E s : Nat) : Int) := fun h => by
      by_cases e : fstF E s < t
      · unfold curV; rw [if_pos e]
      · rcases h with h | h
        · have : fstF E s = s := by omega
          unfold curV numF; rw [if_neg e, this]
        · exact absurd (by unfold curV; rw [if_neg e]) h
    have hout : ∀ v : Int, v = ((numF E s : Nat) : Int) → (v = ((cntF E s : Nat) : Int) ↔ isF E s = true) := fun v hv => by
      constructor
      · intro h
        rcases Nat.lt_or_eq_of_le hf1 with h1 | h1
        · have := hnum h1; omega
        · rw [← h1]; exact hfi
      · intro h
        rw [hv, Int.natCast_inj, ← hE]
        rw [← hE] at h
        exact numF_isF h
    refine ⟨fun hts => ⟨hlt2, fun hcv => ?_, fun hcv => ?_⟩, fun hts => ?_⟩
    · have hft : t ≤ fstF E s := by
        rcases Nat.lt_or_ge (fstF E s) t with h | h
        · have h1 : curV E s t = ((numF E s : Nat) : Int) := by unfold curV; rw [if_pos h]
          have := hnum (by omega)
          omega
        · exact h
      have hrt := hV.v.row _ (getD_mem' (show t < N.length by omega))
      have hrot : (O.getD t []).length = k := (hV.orow _ (getD_mem' (show t < O.length by omega))).1
      refine awp_upto (tyP_ok _) c90 2000 [1, 2, 4, 5, 6, 7, 8, 9, 10] (k) (fun _ => True) (fun x => ⟨109, [(1, .pay (.ints .i64 c) y), (2, .fref [.pay (.rows N) z, .pay (.rows O) z']), (4, .pay (.ints .i64 []) true), (5, .own 0), (6, .int .i64 (cntF E s)), (7, .int .i64 s), (8, .int .i64 t), (9, .bool (alk N O c s t x)), (10, .int .i64 x)], [.arr (.ints .i64 (outL E N.length s (curV E s t))) ⟨3, false⟩]⟩) (by kernel_rfl) ?_ ?_ ?_
      · simp (config := {implicitDefEqProofs := false, maxSteps := 4000000}) (disch := omega) only [push_cast, c90, Nat.reduceAdd, Nat.reduceSub, Nat.reduceMul, Nat.reduceBEq, Int.reduceToNat, Int.reduceNeg, Int.reduceLE, Int.reduceLT, Int.reduceBEq, Int.reduceBNe, Int.reduceEq, Bool.not_true, Bool.not_false, eq_self, reduceCtorEq]
        rfl
      · trivial
      intro x hx _
      have hsu := alk_succ (N := N) (O := O) (c := c) (s := s) (t := t) (x := x)
      simp (config := {implicitDefEqProofs := false, maxSteps := 4000000}) (disch := omega) only [push_cast, c90, outL_len, Nat.reduceAdd, Nat.reduceSub, Nat.reduceMul, Nat.reduceBEq, Int.reduceToNat, Int.reduceNeg, Int.reduceLE, Int.reduceLT, Int.reduceBEq, Int.reduceBNe, Int.reduceEq, Bool.not_true, Bool.not_false, eq_self, reduceCtorEq]
      have e1 : ∀ u : Nat, outG O u x = (O.getD u []).getD x 0 := fun u => by simp [outG]
      have e2 : ∀ u : Nat, nxG N u x = (N.getD u []).getD x 0 := fun u => by simp [nxG]
      rw [e1, e1, e2, e2] at hsu
      refine ⟨hlt2, fun hxk => ?_, fun hxk => ?_⟩
      · have hx1 := hrow.2 _ (getD_mem hxk)
        have hx2 := hrt.2 _ (getD_mem (show x < (N.getD t []).length by omega))
        refine ⟨fun ha => ⟨by omega, by omega, by omega, by omega, fun he => ⟨hlt2, hxk, ⟨hx1.1, by omega⟩, by omega, by omega, ⟨hx2.1, by omega⟩, by omega, ?_⟩, fun hne => ⟨by omega, ?_⟩⟩, fun ha => ⟨by omega, ?_⟩⟩
        · rw [hsu, ha, Bool.true_and, Bool.eq_iff_iff, beq_iff_eq, decide_eq_true_eq]
          exact ⟨fun h => ⟨he, h⟩, fun h => h.2⟩
        · rw [hsu, decide_eq_false (fun h => hne h.1), Bool.and_false]
        · rw [hsu, ha]; rfl
      · have hxk2 : x = k := by omega
        subst hxk2
        have hEst : alk N O c s t x = E s t := by rw [← hE]; exact alk_key
        have hE2 : ∀ u v, E u v = true ↔ kF N O x c u = kF N O x c v := fun u v => by rw [← hE]; simp [keyE]
        have hfk : kF N O x c (fstF E s) = kF N O x c s := by rw [← hE]; exact fstF_key s
        have hff : ∀ u, u < fstF E s → kF N O x c s ≠ kF N O x c u := fun u hu => by rw [← hE] at hu; exact fstF_first hu
        rw [hEst]
        refine ⟨fun ha => ?_, fun ha => ?_⟩
        · have hk1 := (hE2 s t).1 ha
          have hft2 : fstF E s = t := by
            rcases Nat.lt_or_eq_of_le hft with h | h
            · exact absurd hk1 (hff t h)
            · exact h.symm
          have hnt : numF E t = numF E s := by
            rw [← hE]; exact numF_eq.2 hk1.symm
          refine ⟨by omega, hlt2, hts, by omega, ?_⟩
          rw [outL_set, outL_lt hts (by omega), hnt]
          unfold curV
          rw [if_pos (by omega)]
        · have hft2 : fstF E s ≠ t := fun h => by
            have : E s t = true := (hE2 s t).2 (by rw [← h]; exact hfk.symm)
            rw [this] at ha; cases ha
          refine ⟨hts, by omega, ?_⟩
          unfold curV
          rw [if_neg (by omega), if_neg (by omega)]
    · have hv := hexit (.inr hcv)
      have ho := hout _ hv
      rw [hv]
      refine ⟨hlt2, fun h => ⟨hlt2, ?_, outL_next⟩, fun h => ⟨hlt2, ?_, outL_next⟩⟩
      · rw [cntF, if_pos (ho.1 (by omega))]; omega
      · rw [cntF, if_neg (fun h2 => h (by rw [← hv]; exact ho.2 h2))]; rfl
    · have hv := hexit (.inl hts)
      have ho := hout _ hv
      rw [hv] at ho ⊢
      refine ⟨hlt2, fun h => ⟨hlt2, ?_, outL_next⟩, fun h => ⟨hlt2, ?_, outL_next⟩⟩
      · rw [cntF, if_pos (ho.1 h)]; omega
      · rw [cntF, if_neg (fun h2 => h (ho.2 h2))]; rfl
  · rw [show s = N.length by omega, hall]
/- mizmaze/mizmazeref07.Classes -/
def c73 : VCfg := ⟨⟨[], [], [], [0, 1, 2, 3, 4, 13]⟩, [], [], []⟩
theorem f73 (N O : List (List Int)) (z z' : Bool) (k : Nat) (hV : VM N O k) : ACall Try.prog 73 [.agg [.pay (.rows (N)) (z), .pay (.rows (O)) (z')]] (fun r objs => r = .pay (.ints .i64 (clsT N O k)) false ∧ objs = []) := by
  have hn := hV.v.n2
  refine acall_intro (tyP_ok _) c73 2000 [.tmp 2] Try.func73 rfl (by rfl) rfl (by kernel_rfl) ?_
  unfold Try.f73
  simp (config := {implicitDefEqProofs := false, maxSteps := 4000000}) (disch := omega) only [push_cast, c73, Nat.reduceAdd, Nat.reduceSub, Nat.reduceMul, Nat.reduceBEq, Int.reduceToNat, Int.reduceNeg, Int.reduceLE, Int.reduceLT, Int.reduceBEq, Int.reduceBNe, Int.reduceEq, Bool.not_true, Bool.not_false, eq_self, reduceCtorEq]
  refine ⟨by omega, ?_⟩
  refine awp_freeze [0] ?_
  refine awp_upto (tyP_ok _) c73 2000 [1, 2, 3, 4] (N.length) (fun _ => True) (fun i => ⟨20, [(1, .fref [.pay (.rows N) z, .pay (.rows O) z']), (2, .pay (.ints .i64 []) true), (3, .pay (.ints .i64 (clsI N O k i)) false), (4, .int .i64 i)], []⟩) (by kernel_rfl) ?_ ?_ ?_
  · simp (config := {implicitDefEqProofs := false, maxSteps := 4000000}) (disch := omega) only [push_cast, c73, Nat.reduceAdd, Nat.reduceSub, Nat.reduceMul, Nat.reduceBEq, Int.reduceToNat, Int.reduceNeg, Int.reduceLE, Int.reduceLT, Int.reduceBEq, Int.reduceBNe, Int.reduceEq, Bool.not_true, Bool.not_false, eq_self, reduceCtorEq]
    rfl
  · trivial
  intro i hi _
  simp (config := {implicitDefEqProofs := false, maxSteps := 4000000}) (disch := omega) only [push_cast, c73, Nat.reduceAdd, Nat.reduceSub, Nat.reduceMul, Nat.reduceBEq, Int.reduceToNat, Int.reduceNeg, Int.reduceLE, Int.reduceLT, Int.reduceBEq, Int.reduceBNe, Int.reduceEq, Bool.not_true, Bool.not_false, eq_self, reduceCtorEq]
  refine ⟨fun hlt => ?_, fun hge => by rw [show i = N.length by omega]; rfl⟩
  refine callW_eq _ _ (f90 N O z z' false _ k hV (clsI_len i)) ?_
  simp (config := {implicitDefEqProofs := false, maxSteps := 4000000}) (disch := omega) only [push_cast, c73, Nat.reduceAdd, Nat.reduceSub, Nat.reduceMul, Nat.reduceBEq, Int.reduceToNat, Int.reduceNeg, Int.reduceLE, Int.reduceLT, Int.reduceBEq, Int.reduceBNe, Int.reduceEq, Bool.not_true, Bool.not_false, eq_self, reduceCtorEq]
  exact ⟨hlt, rfl⟩
/- mizmaze/mizmazeref07.Count -/
def c72 : VCfg := ⟨⟨[], [], [], [0, 2, 3, 4, 8]⟩, [], [], []⟩
set_option maxRecDepth 100000 in
theorem f72 (l : List Int) (z : Bool) (m : Nat) (hl : l.length ≤ 4611686018427387904) (hm : m ≤ 4611686018427387904) (h1 : ∀ i, i < l.length → 0 ≤ l.getD i 0 ∧ l.getD i 0 < m) (h2 : 0 < m → ∃ i, i < l.length ∧ l.getD i 0 = m - 1) : ACall Try.prog 72 [.pay (.ints .i64 l) z] (fun r objs => r = .int .i64 m ∧ objs = []) := by
  refine acall_intro (tyP_ok _) c72 2000 [.tmp 2] Try.func72 rfl (by rfl) rfl (by kernel_rfl) ?_
  unfold Try.f72
  simp (config := {implicitDefEqProofs := false, maxSteps := 4000000}) (disch := omega) only [push_cast, c72, Nat.reduceAdd, Nat.reduceSub, Nat.reduceMul, Nat.reduceBEq, Int.reduceToNat, Int.reduceNeg, Int.reduceLE, Int.reduceLT, Int.reduceBEq, Int.reduceBNe, Int.reduceEq, Bool.not_true, Bool.not_false, eq_self, reduceCtorEq]
  refine awp_loop (tyP_ok _) c72 2000 [0, 2, 3, 4] (fun n g st => ∃ (i : Nat) (v : Int), g = (false, 0) ∧ i ≤ l.length ∧ 0 ≤ v ∧ v ≤ m ∧ (∀ j, j < i → l.getD j 0 < v) ∧ n = l.length - i ∧ st = ⟨19, [(0, .pay (.ints .i64 l) z), (2, .int .i64 0), (3, .int .i64 v), (4, .int .i64 i)], []⟩) l.length (by kernel_rfl) ?_ ?_
  · exact ⟨0, 0, rfl, Nat.zero_le _, by omega, by omega, fun j hj => by omega, rfl, rfl⟩
  rintro n g st ⟨i, v, rfl, hi, h0, hv, hlt, rfl, rfl⟩
  simp (config := {implicitDefEqProofs := false, maxSteps := 4000000}) (disch := omega) only [push_cast, c72, Nat.reduceAdd, Nat.reduceSub, Nat.reduceMul, Nat.reduceBEq, Int.reduceToNat, Int.reduceNeg, Int.reduceLE, Int.reduceLT, Int.reduceBEq, Int.reduceBNe, Int.reduceEq, Bool.not_true, Bool.not_false, eq_self, reduceCtorEq]
  refine ⟨fun hil => ⟨hil, ?_⟩, fun hge => ?_⟩
  · have := h1 i hil
    rw [wrap_in (by omega)]
    refine ⟨l.length - (i + 1), by omega, i + 1, max v (l.getD i 0 + 1), by omega, by omega, by omega, fun j hj => ?_, rfl, rfl, by omega⟩
    rcases Nat.lt_succ_iff_lt_or_eq.1 hj with hj | rfl
    · have := hlt j hj; omega
    · omega
  · by_cases hm0 : m = 0
    · omega
    · obtain ⟨j, h3, h4⟩ := h2 (by omega)
      have := hlt j (by omega)
      omega
end Go.AM
end

/-! text Uk11 -/
section
namespace Go.AM
open Go Go.Proofs
/- mizmaze/mizmazeref07.Reached -/
def c49 : VCfg := ⟨⟨[], [], [9], [0, 1, 2, 4, 5, 6, 7, 8, 9, 10, 18, 23, 39, 53, 67, 73]⟩, [], [], []⟩
set_option maxHeartbeats 8000000 in
set_option maxRecDepth 100000 in
theorem f49 (N O : List (List Int)) (z z' : Bool) (s : Int) (k : Nat) (hV : VM N O k) (hs : 0 ≤ s ∧ s < N.length) :
    ACall Try.prog 49 [.agg [.pay (.rows (N)) (z), .pay (.rows (O)) (z')], .int .i64 s] (fun r objs => ∃ nz, r = .pay (.ints .i64 (reachL N k s)) nz ∧ objs = []) := by
  suffices h : ACall Try.prog 49 [.agg [.pay (.rows (N)) (z), .pay (.rows (O)) (z')], .int .i64 s] (fun r objs => r = .own 0 ∧ objs = [.arr (.ints .i64 (reachL N k s)) ⟨3, true⟩]) by
    refine h.frz ?_
    rintro r objs ⟨rfl, rfl⟩
    exact ⟨[0], _, 1, rfl, _, rfl, rfl⟩
  have hn := hV.v.n2
  have hk2 := hV.v.k2
  refine acall_intro (tyP_ok _) c49 2000 [.tmp 4] Try.func49 rfl (by rfl) rfl (by kernel_rfl) ?_
  unfold Try.f49
  simp (config := {implicitDefEqProofs := false, maxSteps := 4000000}) (disch := omega) only [push_cast, c49, Nat.reduceAdd, Nat.reduceSub, Nat.reduceMul, Nat.reduceBEq, Int.reduceToNat, Int.reduceNeg, Int.reduceLE, Int.reduceLT, Int.reduceBEq, Int.reduceBNe, Int.reduceEq, Bool.not_true, Bool.not_false, eq_self, reduceCtorEq]
  refine ⟨⟨by omega, by omega⟩, ⟨hs.1, by rw [List.length_replicate]; exact hs.2⟩, ?_⟩
  refine awp_loop (tyP_ok _) c49 2000 [2, 4, 5, 6] (fun n g st => ∃ (B : List Bool) (m : Bool), g = (false, 0) ∧ B.length = N.length ∧ B.getD s.toNat false = true ∧ (∀ i, B.getD i false = true → (i : Int) ∈ (finN N k s).1) ∧ (m = false → ∀ j, j < N.length → B.getD j false = true → ∀ y, y < k → B.getD (nxG N j y).toNat false = true) ∧ n = (if m then N.length + 1 - marks B else 0) ∧ st = ⟨79, [(2, .fref [.pay (.rows N) z, .pay (.rows O) z']), (4, .pay (.ints .i64 []) true), (5, .own 0), (6, .bool m)], [.arr (.bools B) ⟨4, false⟩]⟩) (N.length + 1 - marks ((List.replicate N.length false).set s.toNat true)) (by kernel_rfl) ?_ ?_
  · simp (config := {implicitDefEqProofs := false, maxSteps := 4000000}) (disch := omega) only [push_cast, c49, Nat.reduceAdd, Nat.reduceSub, Nat.reduceMul, Nat.reduceBEq, Int.reduceToNat, Int.reduceNeg, Int.reduceLE, Int.reduceLT, Int.reduceBEq, Int.reduceBNe, Int.reduceEq, Bool.not_true, Bool.not_false, eq_self, reduceCtorEq]
    refine ⟨(List.replicate N.length false).set s.toNat true, true, by simp, ?_, fun i hi => ?_, fun h => (by cases h), rfl, rfl, rfl⟩
    · rw [getD_setB, if_pos ⟨rfl, by rw [List.length_replicate]; omega⟩]
    · rw [getD_setB] at hi
      by_cases e : s.toNat = i
      · rw [show (i : Int) = s by omega]; exact finN_s hV hs
      · simp [e, List.getD, List.getElem?_replicate] at hi
        split at hi <;> simp at hi
  rintro n g st ⟨B, m, rfl, hBl, hBs, hB, hcl, rfl, rfl⟩
  simp (config := {implicitDefEqProofs := false, maxSteps := 4000000}) (disch := omega) only [push_cast, c49, Nat.reduceAdd, Nat.reduceSub, Nat.reduceMul, Nat.reduceBEq, Int.reduceToNat, Int.reduceNeg, Int.reduceLE, Int.reduceLT, Int.reduceBEq, Int.reduceBNe, Int.reduceEq, Bool.not_true, Bool.not_false, eq_self, reduceCtorEq]
  have hmk := marks_le B
  refine ⟨fun hm => ?_, fun hm => ?_⟩
  · subst hm
    refine awp_upto (tyP_ok _) c49 2000 [2, 4, 5, 6, 7] (N.length) (fun _ => True) (fun t => ⟨79, [(2, .fref [.pay (.rows N) z, .pay (.rows O) z']), (4, .pay (.ints .i64 []) true), (5, .own 0), (6, .bool (pasM N k B t).2), (7, .int .i64 t)], [.arr (.bools (pasM N k B t).1) ⟨4, false⟩]⟩) (by kernel_rfl) ?_ ?_ ?_
    · simp (config := {implicitDefEqProofs := false, maxSteps := 4000000}) (disch := omega) only [push_cast, c49, Nat.reduceAdd, Nat.reduceSub, Nat.reduceMul, Nat.reduceBEq, Int.reduceToNat, Int.reduceNeg, Int.reduceLE, Int.reduceLT, Int.reduceBEq, Int.reduceBNe, Int.reduceEq, Bool.not_true, Bool.not_false, eq_self, reduceCtorEq]
      exact ⟨rfl, rfl⟩
    · trivial
    intro t ht _
    have hpl := pasM_len (N := N) (k := k) B t
    simp (config := {implicitDefEqProofs := false, maxSteps := 4000000}) (disch := omega) only [push_cast, c49, Nat.reduceAdd, Nat.reduceSub, Nat.reduceMul, Nat.reduceBEq, Int.reduceToNat, Int.reduceNeg, Int.reduceLE, Int.reduceLT, Int.reduceBEq, Int.reduceBNe, Int.reduceEq, Bool.not_true, Bool.not_false, eq_self, reduceCtorEq]
    refine ⟨fun hlt => ?_, fun hge => ?_⟩
    · have hrl := (hV.v.row _ (getD_mem' hlt)).1
      have hst : pasM N k B (t + 1) = if (pasM N k B t).1.getD t false = true then rowM2 N t (pasM N k B t) k else pasM N k B t := rfl
      generalize hq : pasM N k B t = q at *
      refine awp_upto (tyP_ok _) c49 2000 [2, 4, 5, 6, 7, 8] (k) (fun x => 0 < x → q.1.getD t false = true) (fun x => ⟨79, [(2, .fref [.pay (.rows N) z, .pay (.rows O) z']), (4, .pay (.ints .i64 []) true), (5, .own 0), (6, .bool (rowM2 N t q x).2), (7, .int .i64 t), (8, .int .i64 x)], [.arr (.bools (rowM2 N t q x).1) ⟨4, false⟩]⟩) (by kernel_rfl) ?_ ?_ ?_
      · simp (config := {implicitDefEqProofs := false, maxSteps := 4000000}) (disch := omega) only [push_cast, c49, Nat.reduceAdd, Nat.reduceSub, Nat.reduceMul, Nat.reduceBEq, Int.reduceToNat, Int.reduceNeg, Int.reduceLE, Int.reduceLT, Int.reduceBEq, Int.reduceBNe, Int.reduceEq, Bool.not_true, Bool.not_false, eq_self, reduceCtorEq]
        exact ⟨rfl, rfl⟩
      · exact fun h => by omega
      intro x hx hb
      have hrm := rowM2_len (N := N) t q x
      simp (config := {implicitDefEqProofs := false, maxSteps := 4000000}) (disch := omega) only [push_cast, c49, hrl, Nat.reduceAdd, Nat.reduceSub, Nat.reduceMul, Nat.reduceBEq, Int.reduceToNat, Int.reduceNeg, Int.reduceLE, Int.reduceLT, Int.reduceBEq, Int.reduceBNe, Int.reduceEq, Bool.not_true, Bool.not_false, eq_self, reduceCtorEq]
      have hk1 := hV.v.k1
      have hst2 : rowM2 N t q (x + 1) = if (rowM2 N t q x).1.getD ((N.getD t []).getD x 0).toNat false = true then rowM2 N t q x else ((rowM2 N t q x).1.set ((N.getD t []).getD x 0).toNat true, true) := by
        have e : nxG N t x = (N.getD t []).getD x 0 := by simp [nxG]
        rw [← e]; rfl
      have hup : q.1.getD t false = true → (rowM2 N t q x).1.getD t false = true := rowM2_up t q x t
      refine ⟨hlt, fun hxk => ⟨by omega, fun hin => ?_, fun hin => ?_⟩, fun hxk => ?_⟩
      · have hqt : q.1.getD t false = true := by
          rcases Nat.eq_zero_or_pos x with rfl | h
          · exact hin
          · exact hb h
        have hnx := hV.nx (s := (t : Int)) (c := x) (by omega) (by omega) hxk
        rw [show nxG N t x = (N.getD t []).getD x 0 by simp [nxG]] at hnx
        refine ⟨hlt, hxk, ⟨hnx.1, by omega⟩, fun hf => ⟨hlt, hxk, ⟨hnx.1, by omega⟩, hxk, fun _ => hqt, ?_⟩, fun hf => ⟨hxk, fun _ => hqt, ?_⟩⟩
        · rw [hst2, if_neg (by rw [hf]; decide)]; exact ⟨rfl, rfl⟩
        · rw [hst2, if_pos hf]; exact ⟨rfl, rfl⟩
      · have hx0 : x = 0 := by
          rcases Nat.eq_zero_or_pos x with h | h
          · exact h
          · rw [hup (hb h)] at hin; cases hin
        subst hx0
        have hin2 : q.1.getD t false = false := hin
        rw [hst, if_neg (by rw [hin2]; decide)]
        exact ⟨hlt, rfl, rfl⟩
      · have hxe : x = k := by omega
        rw [hst, if_pos (hb (by omega)), hxe]
        exact ⟨hlt, rfl, rfl⟩
    · have hte : t = N.length := by omega
      subst hte
      have hcn := pasM_cnt hV B hBl N.length (Nat.le_refl _)
      have hno := pasM_no (N := N) (k := k) B N.length
      have hok := pasM_ok hV hs B hB N.length
      have hml := marks_le (pasM N k B N.length).1
      refine ⟨if (pasM N k B N.length).2 = true then N.length + 1 - marks (pasM N k B N.length).1 else 0, ?_, (pasM N k B N.length).1, (pasM N k B N.length).2, by omega, ?_, hok, fun hf => ?_, rfl, rfl, rfl⟩
      · rw [if_pos trivial]
        split
        · rename_i h
          have := hcn.2 h; omega
        · omega
      · exact pasM_up B hBs N.length
      · obtain ⟨h1, h2⟩ := hno hf
        rw [h1]; exact h2
  · subst hm
    refine awp_upto (tyP_ok _) c49 2000 [4, 5, 9, 10] (N.length) (fun _ => True) (fun i => ⟨79, [(4, .pay (.ints .i64 []) true), (5, .own 0), (9, .own 1), (10, .int .i64 i)], [.arr (.bools B) ⟨4, false⟩, .arr (.ints .i64 (fromTo i fun t => B.getD t.toNat false)) ⟨3, true⟩]⟩) (by kernel_rfl) ?_ ?_ ?_
    · simp (config := {implicitDefEqProofs := false, maxSteps := 4000000}) (disch := omega) only [push_cast, c49, Nat.reduceAdd, Nat.reduceSub, Nat.reduceMul, Nat.reduceBEq, Int.reduceToNat, Int.reduceNeg, Int.reduceLE, Int.reduceLT, Int.reduceBEq, Int.reduceBNe, Int.reduceEq, Bool.not_true, Bool.not_false, eq_self, reduceCtorEq]
      rfl
    · trivial
    intro i hi _
    simp (config := {implicitDefEqProofs := false, maxSteps := 4000000}) (disch := omega) only [push_cast, c49, Nat.reduceAdd, Nat.reduceSub, Nat.reduceMul, Nat.reduceBEq, Int.reduceToNat, Int.reduceNeg, Int.reduceLE, Int.reduceLT, Int.reduceBEq, Int.reduceBNe, Int.reduceEq, Bool.not_true, Bool.not_false, eq_self, reduceCtorEq]
    have hfl := fromTo_len i fun t => B.getD t.toNat false
    have hsu := fromTo_succ i fun t => B.getD t.toNat false
    simp only [Int.toNat_natCast] at hsu
    refine ⟨fun hlt => ⟨hlt, fun h => ⟨by omega, by omega, by rw [hsu, if_pos h]⟩, fun h => ⟨by omega, by rw [hsu, if_neg (by rw [h]; decide), List.append_nil]⟩⟩, fun hge => ?_⟩
    have hie : i = N.length := by omega
    subst hie
    refine fromTo_congr fun t h0 h1 => ?_
    have := marks_done hV hs hBs hB (hcl rfl) (t := t.toNat)
    rw [this, show ((t.toNat : Nat) : Int) = t by omega]
end Go.AM
end

/-! text Uk12 -/
section
namespace Go.AM
open Go Go.Proofs
/- cmp.isNaN[int] -/
def c110 : VCfg := ⟨⟨[], [], [], [0, 2]⟩, [], [], []⟩
theorem f110 (n : Int) : ACall Try.prog 110 [.int .i64 n] (fun r objs => r = .bool false ∧ objs = []) := by
  refine acall_intro (tyP_ok _) c110 2000 [.tmp 2] Try.func110 rfl (by rfl) rfl (by kernel_rfl) ?_
  unfold Try.f110
  simp (config := {implicitDefEqProofs := false, maxSteps := 4000000}) (disch := omega) only [push_cast, c110, Nat.reduceAdd, Nat.reduceSub, Nat.reduceMul, Nat.reduceBEq, Int.reduceToNat, Int.reduceNeg, Int.reduceLE, Int.reduceLT, Int.reduceBEq, Int.reduceBNe, Int.reduceEq, Bool.not_true, Bool.not_false, eq_self, reduceCtorEq]
/- cmp.Compare[int] -/
def c99 : VCfg := ⟨⟨[], [], [], [0, 1, 4, 5, 6, 11, 12, 13, 16, 19]⟩, [], [], []⟩
theorem f99 (n m : Int) : ACall Try.prog 99 [.int .i64 n, .int .i64 m] (fun r objs => r = .int .i64 (if n < m then -1 else if n = m then 0 else 1) ∧ objs = []) := by
  refine acall_intro (tyP_ok _) c99 2000 [.tmp 4] Try.func99 rfl (by rfl) rfl (by kernel_rfl) ?_
  unfold Try.f99
  simp (config := {implicitDefEqProofs := false, maxSteps := 4000000}) (disch := omega) only [push_cast, c99, Nat.reduceAdd, Nat.reduceSub, Nat.reduceMul, Nat.reduceBEq, Int.reduceToNat, Int.reduceNeg, Int.reduceLE, Int.reduceLT, Int.reduceBEq, Int.reduceBNe, Int.reduceEq, Bool.not_true, Bool.not_false, eq_self, reduceCtorEq]
  refine callW_eq _ _ (f110 n) ?_
  simp (config := {implicitDefEqProofs := false, maxSteps := 4000000}) (disch := omega) only [push_cast, c99, Nat.reduceAdd, Nat.reduceSub, Nat.reduceMul, Nat.reduceBEq, Int.reduceToNat, Int.reduceNeg, Int.reduceLE, Int.reduceLT, Int.reduceBEq, Int.reduceBNe, Int.reduceEq, Bool.not_true, Bool.not_false, eq_self, reduceCtorEq]
  refine callW_eq _ _ (f110 m) ?_
  simp (config := {implicitDefEqProofs := false, maxSteps := 4000000}) (disch := omega) only [push_cast, c99, Nat.reduceAdd, Nat.reduceSub, Nat.reduceMul, Nat.reduceBEq, Int.reduceToNat, Int.reduceNeg, Int.reduceLE, Int.reduceLT, Int.reduceBEq, Int.reduceBNe, Int.reduceEq, Bool.not_true, Bool.not_false, eq_self, reduceCtorEq]
  refine ⟨fun h => ?_, fun h => ⟨fun h2 => ?_, fun h2 => ?_⟩⟩
  · simp [h]
  · simp [show ¬ n < m by omega, show ¬ n = m by omega]
  · simp [show n = m by omega]
/- slices.Compare[[]int,int] -/
def c88 : VCfg := ⟨⟨[], [], [], [0, 1, 4, 5, 6, 7, 8, 9, 10, 11, 12, 19, 28, 35]⟩, [], [], []⟩
set_option maxHeartbeats 1000000 in
theorem f88 (x y : List Int) (z z' : Bool) (hx : x.length ≤ 4611686018427387904) : ACall Try.prog 88 [.pay (.ints .i64 x) z, .pay (.ints .i64 y) z'] (fun r objs => r = .int .i64 (cmpL x y) ∧ objs = []) := by
  refine acall_intro (tyP_ok _) c88 2000 [.tmp 4] Try.func88 rfl (by rfl) rfl (by kernel_rfl) ?_
  unfold Try.f88
  simp (config := {implicitDefEqProofs := false, maxSteps := 4000000}) (disch := omega) only [push_cast, c88, Nat.reduceAdd, Nat.reduceSub, Nat.reduceMul, Nat.reduceBEq, Int.reduceToNat, Int.reduceNeg, Int.reduceLE, Int.reduceLT, Int.reduceBEq, Int.reduceBNe, Int.reduceEq, Bool.not_true, Bool.not_false, eq_self, reduceCtorEq]
  refine awp_upto (tyP_ok _) c88 2000 [0, 1, 4, 9, 10, 11] (x.length) (fun i => i ≤ y.length ∧ ∀ j, j < i → x.getD j 0 = y.getD j 0) (fun i => ⟨36, [(0, .pay (.ints .i64 x) z), (1, .pay (.ints .i64 y) z'), (4, .int .i64 0), (9, .pay (.ints .i64 x) z), (10, .int .i64 x.length), (11, .int .i64 i)], []⟩) (by kernel_rfl) ?_ ?_ ?_
  · simp (config := {implicitDefEqProofs := false, maxSteps := 4000000}) (disch := omega) only [push_cast, c88, Nat.reduceAdd, Nat.reduceSub, Nat.reduceMul, Nat.reduceBEq, Int.reduceToNat, Int.reduceNeg, Int.reduceLE, Int.reduceLT, Int.reduceBEq, Int.reduceBNe, Int.reduceEq, Bool.not_true, Bool.not_false, eq_self, reduceCtorEq]
  · exact ⟨Nat.zero_le _, fun j hj => by omega⟩
  rintro i hi ⟨hy, hp⟩
  simp (config := {implicitDefEqProofs := false, maxSteps := 4000000}) (disch := omega) only [push_cast, c88, Nat.reduceAdd, Nat.reduceSub, Nat.reduceMul, Nat.reduceBEq, Int.reduceToNat, Int.reduceNeg, Int.reduceLE, Int.reduceLT, Int.reduceBEq, Int.reduceBNe, Int.reduceEq, Bool.not_true, Bool.not_false, eq_self, reduceCtorEq]
  refine ⟨fun hlt => ⟨hlt, fun hge => ?_, fun hly => ?_⟩, fun hge => ⟨fun hl => ?_, fun hl => ?_⟩⟩
  · rw [cmpL_end hp (by omega) (by omega) (.inr (by omega))]
    simp [show ¬ x.length < y.length by omega, show ¬ x.length = y.length by omega]
  · refine ⟨by omega, ?_⟩
    refine callW_eq _ _ (f99 _ _) ?_
    simp (config := {implicitDefEqProofs := false, maxSteps := 4000000}) (disch := omega) only [push_cast, c88, Nat.reduceAdd, Nat.reduceSub, Nat.reduceMul, Nat.reduceBEq, Int.reduceToNat, Int.reduceNeg, Int.reduceLE, Int.reduceLT, Int.reduceBEq, Int.reduceBNe, Int.reduceEq, Bool.not_true, Bool.not_false, eq_self, reduceCtorEq]
    refine ⟨fun hne => ?_, fun he => ?_⟩
    · by_cases h0 : x.getD i 0 = y.getD i 0
      · rw [h0] at hne; simp at hne
      · rw [cmpL_eq hp (by omega) (by omega) h0, if_neg h0]
    · refine ⟨hlt, ⟨by omega, upto_succ hp ?_⟩⟩
      by_cases h0 : x.getD i 0 = y.getD i 0
      · exact h0
      · exfalso; revert he; split <;> simp [h0]
  · rw [cmpL_end hp (by omega) (by omega) (.inl (by omega))]
    simp [show x.length < y.length by omega]
  · rw [cmpL_end hp (by omega) (by omega) (.inl (by omega))]
    simp [show ¬ x.length < y.length by omega, show x.length = y.length by omega]
/- slices.Equal[[]int,int] -/
def c62 : VCfg := ⟨⟨[], [], [], [0, 1, 4, 5, 10, 12, 13, 14, 24]⟩, [(6, (.op 0 .loose (.op 1 .loose (.op 2 .loose (.op 3 .loose (.op 4 .loose (.op 5 .loose (.op 6 .loose (.op 7 .loose (.op 8 .loose .nil))))))))))], [], []⟩
theorem f62 (x y : List Int) (z z' : Bool) (hx : x.length ≤ 4611686018427387904) : ACall Try.prog 62 [.pay (.ints .i64 x) z, .pay (.ints .i64 y) z'] (fun r objs => r = .bool (decide (x = y)) ∧ objs = []) := by
  refine acall_intro (tyP_ok _) c62 2000 [.tmp 4] Try.func62 rfl (by rfl) rfl (by kernel_rfl) ?_
  unfold Try.f62
  simp (config := {implicitDefEqProofs := false, maxSteps := 4000000}) (disch := omega) only [push_cast, c62, Nat.reduceAdd, Nat.reduceSub, Nat.reduceMul, Nat.reduceBEq, Int.reduceToNat, Int.reduceNeg, Int.reduceLE, Int.reduceLT, Int.reduceBEq, Int.reduceBNe, Int.reduceEq, Bool.not_true, Bool.not_false, eq_self, reduceCtorEq]
  refine ⟨fun hne => ?_, fun heq => ?_⟩
  · have : x ≠ y := fun e => by subst e; simp at hne
    simp [this]
  refine awp_upto (tyP_ok _) c62 2000 [0, 1, 4, 12, 13] (x.length) (fun i => ∀ j, j < i → x.getD j 0 = y.getD j 0) (fun i => ⟨26, [(0, .pay (.ints .i64 x) z), (1, .pay (.ints .i64 y) z'), (4, .bool false), (12, .int .i64 x.length), (13, .int .i64 i)], []⟩) (by kernel_rfl) ?_ ?_ ?_
  · simp (config := {implicitDefEqProofs := false, maxSteps := 4000000}) (disch := omega) only [push_cast, c62, Nat.reduceAdd, Nat.reduceSub, Nat.reduceMul, Nat.reduceBEq, Int.reduceToNat, Int.reduceNeg, Int.reduceLE, Int.reduceLT, Int.reduceBEq, Int.reduceBNe, Int.reduceEq, Bool.not_true, Bool.not_false, eq_self, reduceCtorEq]
  · exact fun j hj => by omega
  intro i hi hp
  simp (config := {implicitDefEqProofs := false, maxSteps := 4000000}) (disch := omega) only [push_cast, c62, Nat.reduceAdd, Nat.reduceSub, Nat.reduceMul, Nat.reduceBEq, Int.reduceToNat, Int.reduceNeg, Int.reduceLE, Int.reduceLT, Int.reduceBEq, Int.reduceBNe, Int.reduceEq, Bool.not_true, Bool.not_false, eq_self, reduceCtorEq]
  refine ⟨fun hlt => ⟨hlt, by omega, fun hne => ?_, fun he => ⟨hlt, upto_succ hp he⟩⟩, fun hge => ?_⟩
  · have : x ≠ y := fun e => hne (by rw [e])
    simp [this]
  · have : x = y := ints_eq' heq fun j hj => hp j (by omega)
    simp [this]
end Go.AM
end

/-! text Uk13 -/
section
namespace Go.AM
open Go Go.Proofs Go.Sort
theorem f87 (y : Yc) (g : Gh) (L : List (List Int)) (ai : AI) (hl : L.length ≤ 1099511627776) (hB : ∀ r ∈ L, r.length ≤ 4611686018427387904) :
    GCall Try.prog y 87 g [.own 0, .clo 88 []] [.arr (.rows L) ai] (fun g' r A O => g' = g ∧ r = .tup [] ∧ A = [.own 0, .junk] ∧ ∃ L', L'.length = L.length ∧ (L'.Perm L ∧ SR L') ∧ O = [.arr (.rows L') ai]) := by
  have hE : Enters Try.prog 88 := enters_of Try.func88 rfl rfl
  refine gcall_rowsInPlace (B := 4611686018427387904) (Good := fun L' => L'.Perm L ∧ SR L') Try.func87 rfl rfl hB (fun e => by rw [e]; exact ⟨.nil, .nil⟩) (fun e a cap w => ?_) (fun w S b cap d hS hb hH hs hr hbl hcap => ?_)
  · exact AnyF.slices_SortFunc_none (P := Try.prog) (ρ := Try.laysSlF6_f87_ren) { Try.laysSlF6_f87 with } a cap _ w
  · have h := Try.slices_SortFunc (vlV : RowVal w S 4611686018427387904 → Value) vlV_one (fun x y => cmpL (rdV x) (rdV y)) cmpL_SWO 88 #[] b 0 cap d w hE (cmpLays_of (fun x y hx _ => f88 x y false false hx) hS hb) hH hbl (by omega)
    rw [hs] at h
    refine h.mono ?_
    rintro e w' ⟨rfl, d', n, os, hp, hsd, rfl⟩
    have hd' : d'.size = L.length := hp.1.trans hs
    refine ⟨rfl, d', n, os, hd', rfl, ?_, sorted_map (by rw [hd']; exact hsd)⟩
    have e1 : d.toList.map rdV = L := by
      refine List.ext_getElem (by simp [hs]) fun i h1 h2 => ?_
      have h3 : i < d.size := by simpa using h1
      have := hr i (by omega)
      rw [getElem!_pos d i h3] at this
      simpa [List.getD, h2] using this
    have h2 := hp.2.2
    rw [show d'.extract 0 L.length = d' by rw [← hd']; simp, show d.extract 0 L.length = d by rw [← hs]; simp] at h2
    rw [← e1]
    exact h2.map rdV
end Go.AM
end

/-! text Uk14 -/
section
namespace Go.AM
open Go Go.Proofs Go.Sort
theorem cpR_all {L : List (List Int)} {m : Nat} (hm : m ≤ L.length) (h : ∀ j, j < m → keptR L j = true) : (kpR L m).length = m ∧ cpR L m = L := by
  have e := kpR_take hm h
  have e2 : (kpR L m).length = m := by rw [e]; simp; omega
  exact ⟨e2, by unfold cpR; rw [e2, e, List.take_append_drop]⟩
/- slices.CompactFunc[[][]int,[]int] -/
def c89 : VCfg := ⟨⟨[64], [31, 61], [], [0, 1, 4, 5, 6, 7, 10, 15, 28, 35, 49]⟩, [(6, (.op 0 .loose (.op 1 .loose (.op 2 .loose (.op 3 .loose (.op 4 .loose (.op 5 .loose (.op 6 .loose (.op 7 .loose (.op 8 .loose (.op 9 .loose (.op 10 .eff .nil)))))))))))), (11, (.op 0 .loose (.op 1 .loose (.op 2 .loose (.op 3 .loose (.op 4 .loose (.op 5 .loose (.op 6 .loose (.op 7 .loose (.op 8 .loose (.op 9 .loose (.op 10 .eff (.op 11 .loose .nil)))))))))))))], [], []⟩
set_option maxHeartbeats 4000000 in
set_option maxRecDepth 100000 in
theorem g89 (y : Yc) (g : Gh) (L : List (List Int)) (ai : AI) (hl : L.length ≤ 1099511627776) (hB : ∀ r ∈ L, r.length ≤ 4611686018427387904) :
    GCall Try.prog y 89 g [.own 0, .clo 62 []] [.arr (.rows L) ai] (fun g' r A O => g' = g ∧ ((r = .own 0 ∧ A = [.own 0, .clo 62 []] ∧ O = [.arr (.rows L) ai] ∧ compR L = L) ∨ (r = .pay (.rows (compR L)) false ∧ ∃ a, A = [a, .clo 62 []] ∧ O = []))) := by
  have hBd : ∀ j, (L.getD j []).length ≤ 4611686018427387904 := fun j => by
    by_cases hj : j < L.length
    · exact hB _ (getD_mem' hj)
    · rw [List.getD_eq_getElem?_getD, List.getElem?_eq_none (by omega)]; simp
  refine gcall_intro (tyP_ok _) c89 2000 [.tmp 4] [0, 1] Try.func89 rfl (by rfl) rfl (by rfl) (by kernel_rfl) (by kernel_rfl) ?_
  unfold Try.f89
  simp (config := {implicitDefEqProofs := false, maxSteps := 4000000}) (disch := omega) only [push_cast, c89, Nat.reduceAdd, Nat.reduceSub, Nat.reduceMul, Nat.reduceBEq, Int.reduceToNat, Int.reduceNeg, Int.reduceLE, Int.reduceLT, Int.reduceBEq, Int.reduceBNe, Int.reduceEq, Bool.not_true, Bool.not_false, eq_self, reduceCtorEq]
  refine ⟨fun h2 => .inl (compR_short (by omega)), fun h2 => ?_⟩
  refine awp_upto (tyP_ok _) c89 2000 [0, 1, 4, 5] (L.length) (fun i => i + 1 ≤ L.length ∧ ∀ j, j < i + 1 → keptR L j = true) (fun i => ⟨66, [(0, .own 0), (1, .clo 62 []), (4, .pay (.rows []) true), (5, .int .i64 ((i : Int) + 1))], [.arr (.rows L) ai]⟩) (by kernel_rfl) ?_ ?_ ?_
  · simp (config := {implicitDefEqProofs := false, maxSteps := 4000000}) (disch := omega) only [push_cast, c89, Nat.reduceAdd, Nat.reduceSub, Nat.reduceMul, Nat.reduceBEq, Int.reduceToNat, Int.reduceNeg, Int.reduceLE, Int.reduceLT, Int.reduceBEq, Int.reduceBNe, Int.reduceEq, Bool.not_true, Bool.not_false, eq_self, reduceCtorEq]
    rfl
  · refine ⟨by omega, fun j hj => ?_⟩
    have : j = 0 := by omega
    subst this
    exact keptR_zero L
  rintro i hi ⟨hr1, hr2⟩
  simp (config := {implicitDefEqProofs := false, maxSteps := 4000000}) (disch := omega) only [push_cast, c89, Nat.reduceAdd, Nat.reduceSub, Nat.reduceMul, Nat.reduceBEq, Int.reduceToNat, Int.reduceNeg, Int.reduceLE, Int.reduceLT, Int.reduceBEq, Int.reduceBNe, Int.reduceEq, Bool.not_true, Bool.not_false, eq_self, reduceCtorEq]
  refine ⟨fun hlt => ⟨by omega, by omega, ?_⟩, fun hge => ?_⟩
  · have e1 : ((i : Int) + 1).toNat = i + 1 := by omega
    have e2 : ((i : Int) + 1 - 1).toNat = i := by omega
    rw [e1, e2]
    refine callW_eq _ _ (f62 _ _ _ _ (hBd _)) ?_
    simp (config := {implicitDefEqProofs := false, maxSteps := 4000000}) (disch := omega) only [push_cast, c89, Nat.reduceAdd, Nat.reduceSub, Nat.reduceMul, Nat.reduceBEq, Int.reduceToNat, Int.reduceNeg, Int.reduceLE, Int.reduceLT, Int.reduceBEq, Int.reduceBNe, Int.reduceEq, Bool.not_true, Bool.not_false, eq_self, reduceCtorEq]
    refine ⟨fun he => ?_, fun hne => ?_⟩
    · have hk : keptR L (i + 1) = false := by simp only [keptR, Nat.add_sub_cancel, he]; simp
      obtain ⟨hc1, hc2⟩ := cpR_all hr1 hr2
      rw [e1]
      refine ⟨by omega, ?_⟩
      refine awp_upto (tyP_ok _) c89 2000 [0, 1, 4, 5, 6, 7] (L.length) (fun j => i + 2 + j ≤ L.length ∧ (kpR L (i + 2 + j)).length ≤ i + 1 + j) (fun j => ⟨66, [(0, .own 0), (1, .clo 62 []), (4, .pay (.rows []) true), (5, .int .i64 ((kpR L (i + 2 + j)).length : Int)), (6, .mh 0 (.sub (i + 1))), (7, .int .i64 ((j : Int) + 1))], [.arr (.rows (cpR L (i + 2 + j))) ai]⟩) (by kernel_rfl) ?_ ?_ ?_
      · have e3 := kpR_skip hk
        have e4 := cpR_skip hk
        rw [Nat.add_zero, e3, e4, hc1, hc2]
        simp (config := {implicitDefEqProofs := false, maxSteps := 4000000}) (disch := omega) only [push_cast, c89, Nat.reduceAdd, Nat.reduceSub, Nat.reduceMul, Nat.reduceBEq, Int.reduceToNat, Int.reduceNeg, Int.reduceLE, Int.reduceLT, Int.reduceBEq, Int.reduceBNe, Int.reduceEq, Bool.not_true, Bool.not_false, eq_self, reduceCtorEq]
        rfl
      · rw [Nat.add_zero, kpR_skip hk]
        exact ⟨by omega, by omega⟩
      rintro j hj ⟨hj1, hj2⟩
      have hcl := cpR_len hj1
      simp (config := {implicitDefEqProofs := false, maxSteps := 4000000}) (disch := omega) only [push_cast, c89, hcl, Nat.reduceAdd, Nat.reduceSub, Nat.reduceMul, Nat.reduceBEq, Int.reduceToNat, Int.reduceNeg, Int.reduceLE, Int.reduceLT, Int.reduceBEq, Int.reduceBNe, Int.reduceEq, Bool.not_true, Bool.not_false, eq_self, reduceCtorEq]
      have e5 : i + 1 + ((j : Int) + 1).toNat = i + 2 + j := by omega
      have e6 : i + 1 + ((j : Int) + 1 - 1).toNat = i + 1 + j := by omega
      have h3 : (cpR L (i + 2 + j)).getD (i + 2 + j) [] = L.getD (i + 2 + j) [] := cpR_high (by omega)
      have h4 : (cpR L (i + 2 + j)).getD (i + 1 + j) [] = L.getD (i + 1 + j) [] := cpR_high (by omega)
      rw [e5, e6, h3, h4]
      refine ⟨fun hlt2 => ⟨by omega, by omega, ?_⟩, fun hge2 => ?_⟩
      · refine callW_eq _ _ (f62 _ _ _ _ (hBd _)) ?_
        simp (config := {implicitDefEqProofs := false, maxSteps := 4000000}) (disch := omega) only [push_cast, c89, hcl, Nat.reduceAdd, Nat.reduceSub, Nat.reduceMul, Nat.reduceBEq, Int.reduceToNat, Int.reduceNeg, Int.reduceLE, Int.reduceLT, Int.reduceBEq, Int.reduceBNe, Int.reduceEq, Bool.not_true, Bool.not_false, eq_self, reduceCtorEq]
        rw [e5]
        refine ⟨fun hne => ?_, fun heq => ?_⟩
        · have hk2 : keptR L (i + 2 + j) = true := by
            have : i + 2 + j - 1 = i + 1 + j := by omega
            simp only [keptR, this, decide_eq_true_eq]; exact Or.inr hne
          have e7 := cpR_keep (show i + 2 + j < L.length by omega) hk2
          have e8 := kpR_keep hk2
          rw [h3, show i + 2 + (j + 1) = i + 2 + j + 1 by omega, e7]
          exact ⟨by omega, by omega, by omega, ⟨by omega, by omega⟩, by omega, rfl⟩
        · have hk2 : keptR L (i + 2 + j) = false := by
            have : i + 2 + j - 1 = i + 1 + j := by omega
            simp only [keptR, this, heq]; simp
          have e7 := cpR_skip hk2
          have e8 := kpR_skip hk2
          rw [show i + 2 + (j + 1) = i + 2 + j + 1 by omega, e7, e8]
          exact ⟨by omega, ⟨by omega, by omega⟩, rfl, rfl⟩
      · have hm : i + 2 + j = L.length := by omega
        have e7 : (List.take (kpR L (i + 2 + j)).length (cpR L (i + 2 + j))) = kpR L (i + 2 + j) := by simp [cpR]
        have e8 : kpR L (i + 2 + j) = compR L := by rw [hm]; exact kpR_all L
        rw [e7, e8]
        rw [e8] at hj2
        exact ⟨by omega, by simp, .inr ⟨by simp, _, rfl⟩⟩
    · exact ⟨by omega, by omega, upto_succ hr2 (by simp only [keptR, Nat.add_sub_cancel, decide_eq_true_eq]; exact .inr hne)⟩
  · exact .inl (by rw [← kpR_all, kpR_take (Nat.le_refl _) fun j hj => hr2 j (by omega), List.take_length])
theorem f89 (y : Yc) (g : Gh) (L : List (List Int)) (ai : AI) (hl : L.length ≤ 1099511627776) (hB : ∀ r ∈ L, r.length ≤ 4611686018427387904) :
    GCall Try.prog y 89 g [.own 0, .clo 62 []] [.arr (.rows L) ai] (fun g' r A O => g' = g ∧ (∃ z, r = .pay (.rows (compR L)) z) ∧ A = [.junk, .junk] ∧ (O = [] ∨ O = [.dead])) := by
  refine (g89 y g L ai hl hB).frz ?_
  rintro g' r A O hA ⟨rfl, ⟨rfl, rfl, rfl, h⟩ | ⟨rfl, a, rfl, rfl⟩⟩
  · refine ⟨[0], .pay (.rows L) ai.nz, [.pay (.rows L) ai.nz, .clo 62 []], [.dead], rfl, rfl, rfl, ⟨ai.nz, by rw [h]⟩, rfl, .inr rfl⟩
  · exact ⟨[], _, _, _, rfl, rfl, rfl, ⟨_, rfl⟩, rfl, .inl rfl⟩
end Go.AM
end

/-! text Uk15 -/
section
namespace Go.AM
open Go Go.Proofs Go.Sort
theorem onceL_perm {L L' : List (List Int)} (h : L'.Perm L) : onceL L' = onceL L := onceL_congr fun _ => h.mem_iff
/- mizmaze/check.sorted -/
def c71 : VCfg := ⟨⟨[], [], [], [0, 2]⟩, [], [87, 89], [4, 6]⟩
set_option maxHeartbeats 4000000 in
theorem g71 (y : Yc) (g : Gh) (L : List (List Int)) (ai : AI) (hl : L.length ≤ 1099511627776) (hB : ∀ r ∈ L, r.length ≤ 4611686018427387904) :
    GCall Try.prog y 71 g [.own 0] [.arr (.rows L) ai] (fun g' r A O => g' = g ∧ (∃ z, r = .pay (.rows (onceL L)) z) ∧ A = [.junk] ∧ O = []) := by
  refine gcall_intro (tyP_ok _) c71 2000 [.tmp 2] [0] Try.func71 rfl (by rfl) rfl (by rfl) (by kernel_rfl) (by kernel_rfl) ?_
  unfold Try.f71
  simp (config := {implicitDefEqProofs := false, maxSteps := 4000000}) (disch := omega) only [push_cast, c71, Nat.reduceAdd, Nat.reduceSub, Nat.reduceMul, Nat.reduceBEq, Int.reduceToNat, Int.reduceNeg, Int.reduceLE, Int.reduceLT, Int.reduceBEq, Int.reduceBNe, Int.reduceEq, Bool.not_true, Bool.not_false, eq_self, reduceCtorEq]
  refine lcallW_rel (f87 _ _ L ai hl hB) ?_
  rintro g1 R A O ⟨rfl, rfl, rfl, L', hl', ⟨hp, hs⟩, rfl⟩
  simp (config := {implicitDefEqProofs := false, maxSteps := 4000000}) (disch := omega) only [push_cast, c71, Nat.reduceAdd, Nat.reduceSub, Nat.reduceMul, Nat.reduceBEq, Int.reduceToNat, Int.reduceNeg, Int.reduceLE, Int.reduceLT, Int.reduceBEq, Int.reduceBNe, Int.reduceEq, Bool.not_true, Bool.not_false, eq_self, reduceCtorEq]
  refine lcallW_rel (f89 _ _ L' ai (by omega) (fun r hr => hB r (hp.mem_iff.1 hr))) ?_
  rintro g1 R A O ⟨rfl, ⟨z, rfl⟩, rfl, hO⟩
  rw [compR_once hs, onceL_perm hp]
  rcases hO with rfl | rfl
  · simp (config := {implicitDefEqProofs := false, maxSteps := 4000000}) (disch := omega) only [push_cast, c71, Nat.reduceAdd, Nat.reduceSub, Nat.reduceMul, Nat.reduceBEq, Int.reduceToNat, Int.reduceNeg, Int.reduceLE, Int.reduceLT, Int.reduceBEq, Int.reduceBNe, Int.reduceEq, Bool.not_true, Bool.not_false, eq_self, reduceCtorEq]
    exact ⟨_, rfl⟩
  · simp (config := {implicitDefEqProofs := false, maxSteps := 4000000}) (disch := omega) only [push_cast, c71, Nat.reduceAdd, Nat.reduceSub, Nat.reduceMul, Nat.reduceBEq, Int.reduceToNat, Int.reduceNeg, Int.reduceLE, Int.reduceLT, Int.reduceBEq, Int.reduceBNe, Int.reduceEq, Bool.not_true, Bool.not_false, eq_self, reduceCtorEq]
    exact ⟨_, rfl⟩
end Go.AM
end

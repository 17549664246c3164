/-
  Contracts of the reference's classes, minimal machine and count; conditions in each statement.
-/
import Derived.Test.YthgglfpklgjibaaDoorS4
set_option linter.unusedVariables false
set_option linter.unusedSimpArgs false
set_option linter.unusedSectionVars false

/-! text Ud10 -/
section
namespace Go.AM
open Go Go.Proofs
/-- the numbers so far -/
def outL (E : Nat → Nat → Bool) (n s : Nat) (v : Int) : List Int := (List.range n).map fun t => if t < s then ((numF E t : Nat) : Int) else if t = s then v else 0
theorem outL_len (E : Nat → Nat → Bool) (n s : Nat) (v : Int) : (outL E n s v).length = n := by simp [outL]
theorem outL_lt {E : Nat → Nat → Bool} {n s t : Nat} {v : Int} (h : t < s) (hn : t < n) : (outL E n s v).getD t 0 = ((numF E t : Nat) : Int) := by simp [outL, List.getD, hn, h]
theorem outL_at {E : Nat → Nat → Bool} {n s : Nat} {v : Int} (hn : s < n) : (outL E n s v).getD s 0 = v := by simp [outL, List.getD, hn]
theorem outL_set {E : Nat → Nat → Bool} {n s : Nat} {v u : Int} : (outL E n s v).set s u = outL E n s u := by
  refine List.ext_getElem (by simp [outL]) fun i h1 h2 => ?_
  simp only [List.getElem_set, outL, List.getElem_map, List.getElem_range]
  by_cases e : s = i
  · subst e; simp
  · rw [if_neg e]
    by_cases e2 : i < s
    · simp [e2]
    · simp [e2, show ¬ i = s from fun h => e h.symm]
theorem outL_next {E : Nat → Nat → Bool} {n s : Nat} : outL E n s ((numF E s : Nat) : Int) = outL E n (s + 1) 0 := by
  refine List.ext_getElem (by simp [outL]) fun i h1 h2 => ?_
  simp only [outL, List.getElem_map, List.getElem_range]
  by_cases e : i < s
  · rw [if_pos e, if_pos (by omega)]
  · rw [if_neg e]
    by_cases e2 : i = s
    · subst e2; rw [if_pos rfl, if_pos (by omega)]
    · rw [if_neg e2, if_neg (by omega)]; split <;> rfl
theorem outL_zero (E : Nat → Nat → Bool) (n : Nat) : List.replicate n 0 = outL E n 0 0 := by
  refine List.ext_getElem (by simp [outL]) fun i h1 h2 => by simp [outL]
theorem outL_all {N O : List (List Int)} {k : Nat} {c : List Int} : outL (keyE (kF N O k c)) N.length N.length 0 = nextC N O k c := by
  refine List.ext_getElem (by simp [outL, nextC]) fun i h1 h2 => ?_
  have : i < N.length := by simpa [outL] using h1
  simp [outL, nextC, this]
def alk (N O : List (List Int)) (c : List Int) (s t x : Nat) : Bool := (List.range x).all fun y => decide (outG O s y = outG O t y ∧ c.getD (nxG N s y).toNat 0 = c.getD (nxG N t y).toNat 0)
theorem alk_succ {N O : List (List Int)} {c : List Int} {s t x : Nat} : alk N O c s t (x + 1) = (alk N O c s t x && decide (outG O s x = outG O t x ∧ c.getD (nxG N s x).toNat 0 = c.getD (nxG N t x).toNat 0)) := by
  simp [alk, List.range_succ]
theorem alk_key {N O : List (List Int)} {c : List Int} {s t k : Nat} : alk N O c s t k = keyE (kF N O k c) s t := by
  rw [Bool.eq_iff_iff]
  simp only [alk, List.all_eq_true, List.mem_range, decide_eq_true_eq, keyE, kF_eq]
/-- what stands at s while the states below t have been looked at -/
def curV (E : Nat → Nat → Bool) (s t : Nat) : Int := if fstF E s < t then ((numF E s : Nat) : Int) else ((cntF E s : Nat) : Int)
/- mizmaze/mizmazeref07.finer -/
def c51 : VCfg := ⟨⟨[], [], [], [0, 1, 2, 4, 5, 6, 7, 8, 9, 10, 17, 34, 44, 92, 105]⟩, [(14, (.op 0 .loose (.op 1 .loose (.op 2 .loose (.op 3 .loose (.op 4 .loose (.op 5 .loose (.op 6 .loose (.op 7 .loose (.op 8 .loose (.op 9 .loose (.op 10 .loose (.op 11 .loose (.op 12 .loose (.op 13 .loose (.op 14 .loose (.op 15 .loose (.op 16 .loose (.op 17 .loose (.op 18 .loose (.op 19 .loose (.op 20 .loose (.op 21 .loose (.op 22 .loose (.op 23 .loose (.op 24 .loose (.op 25 .loose (.op 26 .loose (.op 27 .loose (.op 28 .loose (.op 29 .loose (.op 30 .loose (.op 31 .loose (.op 32 .loose (.op 33 .loose (.op 34 .loose (.op 35 .loose (.op 36 .loose (.op 37 .loose (.op 38 .loose (.op 39 .loose (.op 40 .loose (.op 41 .loose (.op 42 .loose (.op 43 .loose (.op 44 .loose (.op 45 .loose .nil)))))))))))))))))))))))))))))))))))))))))))))))], [], []⟩
set_option maxHeartbeats 4000000 in
set_option maxRecDepth 100000 in
theorem f51 (N O : List (List Int)) (z z' y : Bool) (c : List Int) (k : Nat) (hV : VM N O k) (hc : c.length = N.length) :
    ACall Tryd.prog 51 [.agg [.pay (.rows (N)) (z), .pay (.rows (O)) (z')], .pay (.ints .i64 c) y] (fun r objs => r = .pay (.ints .i64 (nextC N O k c)) false ∧ objs = []) := by
  suffices h : ACall Tryd.prog 51 [.agg [.pay (.rows (N)) (z), .pay (.rows (O)) (z')], .pay (.ints .i64 c) y] (fun r objs => r = .own 0 ∧ objs = [.arr (.ints .i64 (nextC N O k c)) ⟨3, false⟩]) by
    refine h.frz ?_
    rintro r objs ⟨rfl, rfl⟩
    exact ⟨[0], _, 1, rfl, rfl, rfl⟩
  have hn := hV.v.n2
  have hk2 := hV.v.k2
  have hol := hV.ol
  have hall := outL_all (N := N) (O := O) (k := k) (c := c)
  generalize hE : keyE (kF N O k c) = E at hall
  refine acall_intro (tyP_ok _) c51 2000 [.tmp 4] Tryd.func51 rfl (by rfl) rfl (by kernel_rfl) ?_
  unfold Tryd.f51
  simp (config := {implicitDefEqProofs := false, maxSteps := 4000000}) (disch := omega) only [push_cast, c51, Nat.reduceAdd, Nat.reduceSub, Nat.reduceMul, Nat.reduceBEq, Int.reduceToNat, Int.reduceNeg, Int.reduceLE, Int.reduceLT, Int.reduceBEq, Int.reduceBNe, Int.reduceEq, Bool.not_true, Bool.not_false, eq_self, reduceCtorEq]
  refine ⟨by omega, ?_⟩
  refine awp_upto (tyP_ok _) c51 2000 [1, 2, 4, 5, 6, 7] (N.length) (fun _ => True) (fun s => ⟨109, [(1, .pay (.ints .i64 c) y), (2, .fref [.pay (.rows N) z, .pay (.rows O) z']), (4, .pay (.ints .i64 []) true), (5, .own 0), (6, .int .i64 (cntF E s)), (7, .int .i64 s)], [.arr (.ints .i64 (outL E N.length s 0)) ⟨3, false⟩]⟩) (by kernel_rfl) ?_ ?_ ?_
  · rw [hc, outL_zero E]; simp (config := {implicitDefEqProofs := false, maxSteps := 4000000}) (disch := omega) only [push_cast, c51, Nat.reduceAdd, Nat.reduceSub, Nat.reduceMul, Nat.reduceBEq, Int.reduceToNat, Int.reduceNeg, Int.reduceLE, Int.reduceLT, Int.reduceBEq, Int.reduceBNe, Int.reduceEq, Bool.not_true, Bool.not_false, eq_self, reduceCtorEq]
    rfl
  · trivial
  intro s hs _
  have hcE := cntF_le E s
  simp (config := {implicitDefEqProofs := false, maxSteps := 4000000}) (disch := omega) only [push_cast, c51, outL_len, Nat.reduceAdd, Nat.reduceSub, Nat.reduceMul, Nat.reduceBEq, Int.reduceToNat, Int.reduceNeg, Int.reduceLE, Int.reduceLT, Int.reduceBEq, Int.reduceBNe, Int.reduceEq, Bool.not_true, Bool.not_false, eq_self, reduceCtorEq]
  refine ⟨fun hlt => ?_, fun hge => ?_⟩
  · have hlt2 : s < N.length := by omega
    have hrow := hV.v.row _ (getD_mem' hlt2)
    have hro : (O.getD s []).length = k := (hV.orow _ (getD_mem' (show s < O.length by omega))).1
    rw [outL_set]
    refine ⟨hlt2, ?_⟩
    have hf1 := fstF_le E s
    have hfi : isF E (fstF E s) = true := by rw [← hE]; exact fstF_isF s
    have hcur0 : ((cntF E s : Nat) : Int) = curV E s 0 := by unfold curV; rw [if_neg (by omega)]
    have hnum : fstF E s < s → ((numF E s : Nat) : Int) < ((cntF E s : Nat) : Int) := fun h => by
      have : numF E s < cntF E s := cntF_lt h hfi
      omega
    rw [hcur0]
    refine awp_upto (tyP_ok _) c51 2000 [1, 2, 4, 5, 6, 7, 8] (s) (fun t => t ≤ fstF E s + 1) (fun t => ⟨109, [(1, .pay (.ints .i64 c) y), (2, .fref [.pay (.rows N) z, .pay (.rows O) z']), (4, .pay (.ints .i64 []) true), (5, .own 0), (6, .int .i64 (cntF E s)), (7, .int .i64 s), (8, .int .i64 t)], [.arr (.ints .i64 (outL E N.length s (curV E s t))) ⟨3, false⟩]⟩) (by kernel_rfl) ?_ ?_ ?_
    · rw [← hcur0]; simp (config := {implicitDefEqProofs := false, maxSteps := 4000000}) (disch := omega) only [push_cast, c51, Nat.reduceAdd, Nat.reduceSub, Nat.reduceMul, Nat.reduceBEq, Int.reduceToNat, Int.reduceNeg, Int.reduceLE, Int.reduceLT, Int.reduceBEq, Int.reduceBNe, Int.reduceEq, Bool.not_true, Bool.not_false, eq_self, reduceCtorEq]
    · exact Nat.zero_le _
    intro t ht htf
    have hat := outL_at (E := E) (v := curV E s t) hlt2
    simp (config := {implicitDefEqProofs := false, maxSteps := 4000000}) (disch := omega) only [push_cast, c51, outL_len, hat, Nat.reduceAdd, Nat.reduceSub, Nat.reduceMul, Nat.reduceBEq, Int.reduceToNat, Int.reduceNeg, Int.reduceLE, Int.reduceLT, Int.reduceBEq, Int.reduceBNe, Int.reduceEq, Bool.not_true, Bool.not_false, eq_self, reduceCtorEq]
    have hexit : (s ≤ t ∨ ¬ curV E s t = ((cntF E s : Nat) : Int)) → curV E s t = ((numF E s : Nat) : Int) := fun h => by
      by_cases e : fstF E s < t
      · unfold curV; rw [if_pos e]
      · rcases h with h | h
        · have : fstF E s = s := by omega
          unfold curV numF; rw [if_neg e, this]
        · exact absurd (by unfold curV; rw [if_neg e]) h
    have hout : ∀ v : Int, v = ((numF E s : Nat) : Int) → (v = ((cntF E s : Nat) : Int) ↔ isF E s = true) := fun v hv => by
      constructor
      · intro h
        rcases Nat.lt_or_eq_of_le hf1 with h1 | h1
        · have := hnum h1; omega
        · rw [← h1]; exact hfi
      · intro h
        rw [hv, Int.natCast_inj, ← hE]
        rw [← hE] at h
        exact numF_isF h
    refine ⟨fun hts => ⟨hlt2, fun hcv => ?_, fun hcv => ?_⟩, fun hts => ?_⟩
    · have hft : t ≤ fstF E s := by
        rcases Nat.lt_or_ge (fstF E s) t with h | h
        · have h1 : curV E s t = ((numF E s : Nat) : Int) := by unfold curV; rw [if_pos h]
          have := hnum (by omega)
          omega
        · exact h
      have hrt := hV.v.row _ (getD_mem' (show t < N.length by omega))
      have hrot : (O.getD t []).length = k := (hV.orow _ (getD_mem' (show t < O.length by omega))).1
      refine awp_upto (tyP_ok _) c51 2000 [1, 2, 4, 5, 6, 7, 8, 9, 10] (k) (fun _ => True) (fun x => ⟨109, [(1, .pay (.ints .i64 c) y), (2, .fref [.pay (.rows N) z, .pay (.rows O) z']), (4, .pay (.ints .i64 []) true), (5, .own 0), (6, .int .i64 (cntF E s)), (7, .int .i64 s), (8, .int .i64 t), (9, .bool (alk N O c s t x)), (10, .int .i64 x)], [.arr (.ints .i64 (outL E N.length s (curV E s t))) ⟨3, false⟩]⟩) (by kernel_rfl) ?_ ?_ ?_
      · simp (config := {implicitDefEqProofs := false, maxSteps := 4000000}) (disch := omega) only [push_cast, c51, Nat.reduceAdd, Nat.reduceSub, Nat.reduceMul, Nat.reduceBEq, Int.reduceToNat, Int.reduceNeg, Int.reduceLE, Int.reduceLT, Int.reduceBEq, Int.reduceBNe, Int.reduceEq, Bool.not_true, Bool.not_false, eq_self, reduceCtorEq]
        rfl
      · trivial
      intro x hx _
      have hsu := alk_succ (N := N) (O := O) (c := c) (s := s) (t := t) (x := x)
      simp (config := {implicitDefEqProofs := false, maxSteps := 4000000}) (disch := omega) only [push_cast, c51, outL_len, Nat.reduceAdd, Nat.reduceSub, Nat.reduceMul, Nat.reduceBEq, Int.reduceToNat, Int.reduceNeg, Int.reduceLE, Int.reduceLT, Int.reduceBEq, Int.reduceBNe, Int.reduceEq, Bool.not_true, Bool.not_false, eq_self, reduceCtorEq]
      have e1 : ∀ u : Nat, outG O u x = (O.getD u []).getD x 0 := fun u => by simp [outG]
      have e2 : ∀ u : Nat, nxG N u x = (N.getD u []).getD x 0 := fun u => by simp [nxG]
      rw [e1, e1, e2, e2] at hsu
      refine ⟨hlt2, fun hxk => ?_, fun hxk => ?_⟩
      · have hx1 := hrow.2 _ (getD_mem hxk)
        have hx2 := hrt.2 _ (getD_mem (show x < (N.getD t []).length by omega))
        refine ⟨fun ha => ⟨by omega, by omega, by omega, by omega, fun he => ⟨hlt2, hxk, ⟨hx1.1, by omega⟩, by omega, by omega, ⟨hx2.1, by omega⟩, by omega, ?_⟩, fun hne => ⟨by omega, ?_⟩⟩, fun ha => ⟨by omega, ?_⟩⟩
        · rw [hsu, ha, Bool.true_and, Bool.eq_iff_iff, beq_iff_eq, decide_eq_true_eq]
          exact ⟨fun h => ⟨he, h⟩, fun h => h.2⟩
        · rw [hsu, decide_eq_false (fun h => hne h.1), Bool.and_false]
        · rw [hsu, ha]; rfl
      · have hxk2 : x = k := by omega
        subst hxk2
        have hEst : alk N O c s t x = E s t := by rw [← hE]; exact alk_key
        have hE2 : ∀ u v, E u v = true ↔ kF N O x c u = kF N O x c v := fun u v => by rw [← hE]; simp [keyE]
        have hfk : kF N O x c (fstF E s) = kF N O x c s := by rw [← hE]; exact fstF_key s
        have hff : ∀ u, u < fstF E s → kF N O x c s ≠ kF N O x c u := fun u hu => by rw [← hE] at hu; exact fstF_first hu
        rw [hEst]
        refine ⟨fun ha => ?_, fun ha => ?_⟩
        · have hk1 := (hE2 s t).1 ha
          have hft2 : fstF E s = t := by
            rcases Nat.lt_or_eq_of_le hft with h | h
            · exact absurd hk1 (hff t h)
            · exact h.symm
          have hnt : numF E t = numF E s := by
            rw [← hE]; exact numF_eq.2 hk1.symm
          refine ⟨by omega, hlt2, hts, by omega, ?_⟩
          rw [outL_set, outL_lt hts (by omega), hnt]
          unfold curV
          rw [if_pos (by omega)]
        · have hft2 : fstF E s ≠ t := fun h => by
            have : E s t = true := (hE2 s t).2 (by rw [← h]; exact hfk.symm)
            rw [this] at ha; cases ha
          refine ⟨hts, by omega, ?_⟩
          unfold curV
          rw [if_neg (by omega), if_neg (by omega)]
    · have hv := hexit (.inr hcv)
      have ho := hout _ hv
      rw [hv]
      refine ⟨hlt2, fun h => ⟨hlt2, ?_, outL_next⟩, fun h => ⟨hlt2, ?_, outL_next⟩⟩
      · rw [cntF, if_pos (ho.1 (by omega))]; omega
      · rw [cntF, if_neg (fun h2 => h (by rw [← hv]; exact ho.2 h2))]; rfl
    · have hv := hexit (.inl hts)
      have ho := hout _ hv
      rw [hv] at ho ⊢
      refine ⟨hlt2, fun h => ⟨hlt2, ?_, outL_next⟩, fun h => ⟨hlt2, ?_, outL_next⟩⟩
      · rw [cntF, if_pos (ho.1 h)]; omega
      · rw [cntF, if_neg (fun h2 => h (ho.2 h2))]; rfl
  · rw [show s = N.length by omega, hall]
/- mizmaze/mizmazeref07.Classes -/
def c27 : VCfg := ⟨⟨[], [], [], [0, 1, 2, 3, 4, 13]⟩, [], [], []⟩
theorem f27 (N O : List (List Int)) (z z' : Bool) (k : Nat) (hV : VM N O k) : ACall Tryd.prog 27 [.agg [.pay (.rows (N)) (z), .pay (.rows (O)) (z')]] (fun r objs => r = .pay (.ints .i64 (clsT N O k)) false ∧ objs = []) := by
  have hn := hV.v.n2
  refine acall_intro (tyP_ok _) c27 2000 [.tmp 2] Tryd.func27 rfl (by rfl) rfl (by kernel_rfl) ?_
  unfold Tryd.f27
  simp (config := {implicitDefEqProofs := false, maxSteps := 4000000}) (disch := omega) only [push_cast, c27, Nat.reduceAdd, Nat.reduceSub, Nat.reduceMul, Nat.reduceBEq, Int.reduceToNat, Int.reduceNeg, Int.reduceLE, Int.reduceLT, Int.reduceBEq, Int.reduceBNe, Int.reduceEq, Bool.not_true, Bool.not_false, eq_self, reduceCtorEq]
  refine ⟨by omega, ?_⟩
  refine awp_freeze [0] ?_
  refine awp_upto (tyP_ok _) c27 2000 [1, 2, 3, 4] (N.length) (fun _ => True) (fun i => ⟨20, [(1, .fref [.pay (.rows N) z, .pay (.rows O) z']), (2, .pay (.ints .i64 []) true), (3, .pay (.ints .i64 (clsI N O k i)) false), (4, .int .i64 i)], []⟩) (by kernel_rfl) ?_ ?_ ?_
  · simp (config := {implicitDefEqProofs := false, maxSteps := 4000000}) (disch := omega) only [push_cast, c27, Nat.reduceAdd, Nat.reduceSub, Nat.reduceMul, Nat.reduceBEq, Int.reduceToNat, Int.reduceNeg, Int.reduceLE, Int.reduceLT, Int.reduceBEq, Int.reduceBNe, Int.reduceEq, Bool.not_true, Bool.not_false, eq_self, reduceCtorEq]
    rfl
  · trivial
  intro i hi _
  simp (config := {implicitDefEqProofs := false, maxSteps := 4000000}) (disch := omega) only [push_cast, c27, Nat.reduceAdd, Nat.reduceSub, Nat.reduceMul, Nat.reduceBEq, Int.reduceToNat, Int.reduceNeg, Int.reduceLE, Int.reduceLT, Int.reduceBEq, Int.reduceBNe, Int.reduceEq, Bool.not_true, Bool.not_false, eq_self, reduceCtorEq]
  refine ⟨fun hlt => ?_, fun hge => by rw [show i = N.length by omega]; rfl⟩
  refine callW_eq _ _ (f51 N O z z' false _ k hV (clsI_len i)) ?_
  simp (config := {implicitDefEqProofs := false, maxSteps := 4000000}) (disch := omega) only [push_cast, c27, Nat.reduceAdd, Nat.reduceSub, Nat.reduceMul, Nat.reduceBEq, Int.reduceToNat, Int.reduceNeg, Int.reduceLE, Int.reduceLT, Int.reduceBEq, Int.reduceBNe, Int.reduceEq, Bool.not_true, Bool.not_false, eq_self, reduceCtorEq]
  exact ⟨hlt, rfl⟩
/- mizmaze/mizmazeref07.Minimal -/
def c28 : VCfg := ⟨⟨[], [], [6], [0, 1, 2, 3, 4, 5, 6, 7, 13, 23, 31]⟩, [(6, (.op 0 .loose (.op 1 .loose (.op 2 .loose (.op 3 .loose (.op 4 .loose (.op 5 .loose (.op 6 .loose (.op 7 .loose .nil))))))))), (12, (.op 0 .strict (.op 2 .strict (.op 5 .strict (.op 8 .strict (.op 9 .strict (.op 10 .strict (.op 11 .strict (.op 12 .strict (.alt (.op 1 .eff (.alt (.op 3 .eff (.alt (.op 4 .eff (.alt (.op 6 .eff (.op 16 .strict (.op 7 .eff (.op 13 .eff (.op 14 .eff (.op 15 .eff (.op 17 .eff (.op 18 .loose (.op 19 .eff .nil))))))))) (.op 7 .eff (.alt (.op 6 .eff (.op 16 .strict (.op 13 .eff (.op 14 .eff (.op 15 .eff (.op 17 .eff (.op 18 .loose (.op 19 .eff .nil)))))))) (.op 13 .eff (.alt (.op 6 .eff (.op 16 .strict (.op 14 .eff (.op 15 .eff (.op 17 .eff (.op 18 .loose (.op 19 .eff .nil))))))) (.op 14 .eff (.op 6 .eff (.op 16 .strict (.op 15 .eff (.op 17 .eff (.op 18 .loose (.op 19 .eff .nil))))))))))))) (.alt (.op 6 .eff (.alt (.op 4 .eff (.op 16 .strict (.op 7 .eff (.op 13 .eff (.op 14 .eff (.op 15 .eff (.op 17 .eff (.op 18 .loose (.op 19 .eff .nil))))))))) (.op 7 .eff (.op 4 .eff (.op 16 .strict (.op 13 .eff (.op 14 .eff (.op 15 .eff (.op 17 .eff (.op 18 .loose (.op 19 .eff .nil))))))))))) (.op 7 .eff (.alt (.op 4 .eff (.alt (.op 6 .eff (.op 16 .strict (.op 13 .eff (.op 14 .eff (.op 15 .eff (.op 17 .eff (.op 18 .loose (.op 19 .eff .nil)))))))) (.op 13 .eff (.alt (.op 6 .eff (.op 16 .strict (.op 14 .eff (.op 15 .eff (.op 17 .eff (.op 18 .loose (.op 19 .eff .nil))))))) (.op 14 .eff (.op 6 .eff (.op 16 .strict (.op 15 .eff (.op 17 .eff (.op 18 .loose (.op 19 .eff .nil))))))))))) (.op 6 .eff (.op 4 .eff (.op 16 .strict (.op 13 .eff (.op 14 .eff (.op 15 .eff (.op 17 .eff (.op 18 .loose (.op 19 .eff .nil)))))))))))))) (.alt (.op 6 .eff (.alt (.op 3 .eff (.alt (.op 4 .eff (.op 16 .strict (.op 7 .eff (.op 13 .eff (.op 14 .eff (.op 15 .eff (.op 17 .eff (.op 18 .loose (.op 19 .eff .nil))))))))) (.op 7 .eff (.op 4 .eff (.op 16 .strict (.op 13 .eff (.op 14 .eff (.op 15 .eff (.op 17 .eff (.op 18 .loose (.op 19 .eff .nil))))))))))) (.op 7 .eff (.op 3 .eff (.op 4 .eff (.op 16 .strict (.op 13 .eff (.op 14 .eff (.op 15 .eff (.op 17 .eff (.op 18 .loose (.op 19 .eff .nil)))))))))))) (.op 7 .eff (.alt (.op 3 .eff (.alt (.op 4 .eff (.alt (.op 6 .eff (.op 16 .strict (.op 13 .eff (.op 14 .eff (.op 15 .eff (.op 17 .eff (.op 18 .loose (.op 19 .eff .nil)))))))) (.op 13 .eff (.alt (.op 6 .eff (.op 16 .strict (.op 14 .eff (.op 15 .eff (.op 17 .eff (.op 18 .loose (.op 19 .eff .nil))))))) (.op 14 .eff (.op 6 .eff (.op 16 .strict (.op 15 .eff (.op 17 .eff (.op 18 .loose (.op 19 .eff .nil))))))))))) (.op 6 .eff (.op 4 .eff (.op 16 .strict (.op 13 .eff (.op 14 .eff (.op 15 .eff (.op 17 .eff (.op 18 .loose (.op 19 .eff .nil))))))))))) (.op 6 .eff (.op 3 .eff (.op 4 .eff (.op 16 .strict (.op 13 .eff (.op 14 .eff (.op 15 .eff (.op 17 .eff (.op 18 .loose (.op 19 .eff .nil))))))))))))))) (.alt (.op 3 .eff (.alt (.op 1 .eff (.alt (.op 4 .eff (.alt (.op 6 .eff (.op 16 .strict (.op 7 .eff (.op 13 .eff (.op 14 .eff (.op 15 .eff (.op 17 .eff (.op 18 .loose (.op 19 .eff .nil))))))))) (.op 7 .eff (.alt (.op 6 .eff (.op 16 .strict (.op 13 .eff (.op 14 .eff (.op 15 .eff (.op 17 .eff (.op 18 .loose (.op 19 .eff .nil)))))))) (.op 13 .eff (.alt (.op 6 .eff (.op 16 .strict (.op 14 .eff (.op 15 .eff (.op 17 .eff (.op 18 .loose (.op 19 .eff .nil))))))) (.op 14 .eff (.op 6 .eff (.op 16 .strict (.op 15 .eff (.op 17 .eff (.op 18 .loose (.op 19 .eff .nil))))))))))))) (.alt (.op 6 .eff (.alt (.op 4 .eff (.op 16 .strict (.op 7 .eff (.op 13 .eff (.op 14 .eff (.op 15 .eff (.op 17 .eff (.op 18 .loose (.op 19 .eff .nil))))))))) (.op 7 .eff (.op 4 .eff (.op 16 .strict (.op 13 .eff (.op 14 .eff (.op 15 .eff (.op 17 .eff (.op 18 .loose (.op 19 .eff .nil))))))))))) (.op 7 .eff (.alt (.op 4 .eff (.alt (.op 6 .eff (.op 16 .strict (.op 13 .eff (.op 14 .eff (.op 15 .eff (.op 17 .eff (.op 18 .loose (.op 19 .eff .nil)))))))) (.op 13 .eff (.alt (.op 6 .eff (.op 16 .strict (.op 14 .eff (.op 15 .eff (.op 17 .eff (.op 18 .loose (.op 19 .eff .nil))))))) (.op 14 .eff (.op 6 .eff (.op 16 .strict (.op 15 .eff (.op 17 .eff (.op 18 .loose (.op 19 .eff .nil))))))))))) (.op 6 .eff (.op 4 .eff (.op 16 .strict (.op 13 .eff (.op 14 .eff (.op 15 .eff (.op 17 .eff (.op 18 .loose (.op 19 .eff .nil)))))))))))))) (.alt (.op 6 .eff (.alt (.op 1 .eff (.alt (.op 4 .eff (.op 16 .strict (.op 7 .eff (.op 13 .eff (.op 14 .eff (.op 15 .eff (.op 17 .eff (.op 18 .loose (.op 19 .eff .nil))))))))) (.op 7 .eff (.op 4 .eff (.op 16 .strict (.op 13 .eff (.op 14 .eff (.op 15 .eff (.op 17 .eff (.op 18 .loose (.op 19 .eff .nil))))))))))) (.op 7 .eff (.op 1 .eff (.op 4 .eff (.op 16 .strict (.op 13 .eff (.op 14 .eff (.op 15 .eff (.op 17 .eff (.op 18 .loose (.op 19 .eff .nil)))))))))))) (.op 7 .eff (.alt (.op 1 .eff (.alt (.op 4 .eff (.alt (.op 6 .eff (.op 16 .strict (.op 13 .eff (.op 14 .eff (.op 15 .eff (.op 17 .eff (.op 18 .loose (.op 19 .eff .nil)))))))) (.op 13 .eff (.alt (.op 6 .eff (.op 16 .strict (.op 14 .eff (.op 15 .eff (.op 17 .eff (.op 18 .loose (.op 19 .eff .nil))))))) (.op 14 .eff (.op 6 .eff (.op 16 .strict (.op 15 .eff (.op 17 .eff (.op 18 .loose (.op 19 .eff .nil))))))))))) (.op 6 .eff (.op 4 .eff (.op 16 .strict (.op 13 .eff (.op 14 .eff (.op 15 .eff (.op 17 .eff (.op 18 .loose (.op 19 .eff .nil))))))))))) (.op 6 .eff (.op 1 .eff (.op 4 .eff (.op 16 .strict (.op 13 .eff (.op 14 .eff (.op 15 .eff (.op 17 .eff (.op 18 .loose (.op 19 .eff .nil))))))))))))))) (.alt (.op 6 .eff (.alt (.op 1 .eff (.alt (.op 3 .eff (.alt (.op 4 .eff (.op 16 .strict (.op 7 .eff (.op 13 .eff (.op 14 .eff (.op 15 .eff (.op 17 .eff (.op 18 .loose (.op 19 .eff .nil))))))))) (.op 7 .eff (.op 4 .eff (.op 16 .strict (.op 13 .eff (.op 14 .eff (.op 15 .eff (.op 17 .eff (.op 18 .loose (.op 19 .eff .nil))))))))))) (.op 7 .eff (.op 3 .eff (.op 4 .eff (.op 16 .strict (.op 13 .eff (.op 14 .eff (.op 15 .eff (.op 17 .eff (.op 18 .loose (.op 19 .eff .nil)))))))))))) (.alt (.op 3 .eff (.alt (.op 1 .eff (.alt (.op 4 .eff (.op 16 .strict (.op 7 .eff (.op 13 .eff (.op 14 .eff (.op 15 .eff (.op 17 .eff (.op 18 .loose (.op 19 .eff .nil))))))))) (.op 7 .eff (.op 4 .eff (.op 16 .strict (.op 13 .eff (.op 14 .eff (.op 15 .eff (.op 17 .eff (.op 18 .loose (.op 19 .eff .nil))))))))))) (.op 7 .eff (.op 1 .eff (.op 4 .eff (.op 16 .strict (.op 13 .eff (.op 14 .eff (.op 15 .eff (.op 17 .eff (.op 18 .loose (.op 19 .eff .nil)))))))))))) (.op 7 .eff (.alt (.op 1 .eff (.op 3 .eff (.op 4 .eff (.op 16 .strict (.op 13 .eff (.op 14 .eff (.op 15 .eff (.op 17 .eff (.op 18 .loose (.op 19 .eff .nil)))))))))) (.op 3 .eff (.op 1 .eff (.op 4 .eff (.op 16 .strict (.op 13 .eff (.op 14 .eff (.op 15 .eff (.op 17 .eff (.op 18 .loose (.op 19 .eff .nil))))))))))))))) (.op 7 .eff (.alt (.op 1 .eff (.alt (.op 3 .eff (.alt (.op 4 .eff (.alt (.op 6 .eff (.op 16 .strict (.op 13 .eff (.op 14 .eff (.op 15 .eff (.op 17 .eff (.op 18 .loose (.op 19 .eff .nil)))))))) (.op 13 .eff (.alt (.op 6 .eff (.op 16 .strict (.op 14 .eff (.op 15 .eff (.op 17 .eff (.op 18 .loose (.op 19 .eff .nil))))))) (.op 14 .eff (.op 6 .eff (.op 16 .strict (.op 15 .eff (.op 17 .eff (.op 18 .loose (.op 19 .eff .nil))))))))))) (.op 6 .eff (.op 4 .eff (.op 16 .strict (.op 13 .eff (.op 14 .eff (.op 15 .eff (.op 17 .eff (.op 18 .loose (.op 19 .eff .nil))))))))))) (.op 6 .eff (.op 3 .eff (.op 4 .eff (.op 16 .strict (.op 13 .eff (.op 14 .eff (.op 15 .eff (.op 17 .eff (.op 18 .loose (.op 19 .eff .nil)))))))))))) (.alt (.op 3 .eff (.alt (.op 1 .eff (.alt (.op 4 .eff (.alt (.op 6 .eff (.op 16 .strict (.op 13 .eff (.op 14 .eff (.op 15 .eff (.op 17 .eff (.op 18 .loose (.op 19 .eff .nil)))))))) (.op 13 .eff (.alt (.op 6 .eff (.op 16 .strict (.op 14 .eff (.op 15 .eff (.op 17 .eff (.op 18 .loose (.op 19 .eff .nil))))))) (.op 14 .eff (.op 6 .eff (.op 16 .strict (.op 15 .eff (.op 17 .eff (.op 18 .loose (.op 19 .eff .nil))))))))))) (.op 6 .eff (.op 4 .eff (.op 16 .strict (.op 13 .eff (.op 14 .eff (.op 15 .eff (.op 17 .eff (.op 18 .loose (.op 19 .eff .nil))))))))))) (.op 6 .eff (.op 1 .eff (.op 4 .eff (.op 16 .strict (.op 13 .eff (.op 14 .eff (.op 15 .eff (.op 17 .eff (.op 18 .loose (.op 19 .eff .nil)))))))))))) (.op 6 .eff (.alt (.op 1 .eff (.op 3 .eff (.op 4 .eff (.op 16 .strict (.op 13 .eff (.op 14 .eff (.op 15 .eff (.op 17 .eff (.op 18 .loose (.op 19 .eff .nil)))))))))) (.op 3 .eff (.op 1 .eff (.op 4 .eff (.op 16 .strict (.op 13 .eff (.op 14 .eff (.op 15 .eff (.op 17 .eff (.op 18 .loose (.op 19 .eff .nil)))))))))))))))))))))))))))], [], []⟩
set_option maxHeartbeats 4000000 in
set_option maxRecDepth 100000 in
theorem f28 (N O : List (List Int)) (z z' : Bool) (k : Nat) (hV : VM N O k) : ACall Tryd.prog 28 [.agg [.pay (.rows (N)) (z), .pay (.rows (O)) (z')]] (fun r objs => r = .agg [.pay (.rows (minN N O k)) (true), .pay (.rows (minO N O k)) (true)] ∧ objs = []) := by
  suffices h : ACall Tryd.prog 28 [.agg [.pay (.rows (N)) (z), .pay (.rows (O)) (z')]] (fun r objs => r = .agg [.own 0, .own 1] ∧ objs = [.arr (.rows (minN N O k)) ⟨27, true⟩, .arr (.rows (minO N O k)) ⟨27, true⟩]) by
    refine h.frz ?_
    rintro r objs ⟨rfl, rfl⟩
    exact ⟨[0, 1], _, 2, rfl, rfl, rfl⟩
  have hn := hV.v.n2
  have hk2 := hV.v.k2
  have hcl := clsT_len (N := N) (O := O) (k := k)
  refine acall_intro (tyP_ok _) c28 2000 [.cell 2 24] Tryd.func28 rfl (by rfl) rfl (by kernel_rfl) ?_
  unfold Tryd.f28
  simp (config := {implicitDefEqProofs := false, maxSteps := 4000000}) (disch := omega) only [push_cast, c28, Nat.reduceAdd, Nat.reduceSub, Nat.reduceMul, Nat.reduceBEq, Int.reduceToNat, Int.reduceNeg, Int.reduceLE, Int.reduceLT, Int.reduceBEq, Int.reduceBNe, Int.reduceEq, Bool.not_true, Bool.not_false, eq_self, reduceCtorEq]
  refine callW_eq _ _ (f27 N O z z' k hV) ?_
  simp (config := {implicitDefEqProofs := false, maxSteps := 4000000}) (disch := omega) only [push_cast, c28, Nat.reduceAdd, Nat.reduceSub, Nat.reduceMul, Nat.reduceBEq, Int.reduceToNat, Int.reduceNeg, Int.reduceLE, Int.reduceLT, Int.reduceBEq, Int.reduceBNe, Int.reduceEq, Bool.not_true, Bool.not_false, eq_self, reduceCtorEq]
  refine awp_virt (i := 1) (c := 0) (p := .rows []) 27 rfl rfl rfl ?_
  refine awp_virt (i := 1) (c := 1) (p := .rows []) 27 rfl rfl rfl ?_
  refine awp_upto (tyP_ok _) c28 2000 [1, 2, 3, 4, 5] (N.length) (fun _ => True) (fun i => ⟨67, [(1, .fref [.pay (.rows N) z, .pay (.rows O) z']), (2, .ref 0 0), (3, .pay (.ints .i64 (clsT N O k)) false), (4, .ref 1 0), (5, .int .i64 i)], [.box [.lit (.slice none 0 0), .lit (.slice none 0 0)], .box [.own 2, .own 3], .arr (.rows (minNs N O k i)) ⟨27, true⟩, .arr (.rows (minOs N O k i)) ⟨27, true⟩]⟩) (by kernel_rfl) ?_ ?_ ?_
  · simp (config := {implicitDefEqProofs := false, maxSteps := 4000000}) (disch := omega) only [push_cast, c28, Nat.reduceAdd, Nat.reduceSub, Nat.reduceMul, Nat.reduceBEq, Int.reduceToNat, Int.reduceNeg, Int.reduceLE, Int.reduceLT, Int.reduceBEq, Int.reduceBNe, Int.reduceEq, Bool.not_true, Bool.not_false, eq_self, reduceCtorEq]
    exact ⟨rfl, rfl⟩
  · trivial
  intro i hi _
  have hns := minNs_len (N := N) (O := O) (k := k) i
  have hos := minOs_len (N := N) (O := O) (k := k) i
  have hst : ∀ i, minNs N O k (i + 1) = (if isF (clE N O k) i = true then minNs N O k i ++ [rowN N O k i] else minNs N O k i) ∧ minOs N O k (i + 1) = (if isF (clE N O k) i = true then minOs N O k i ++ [O.getD i []] else minOs N O k i) := fun i => by
    unfold minNs minOs
    rw [firsts_succ]
    split <;> simp
  simp (config := {implicitDefEqProofs := false, maxSteps := 4000000}) (disch := omega) only [push_cast, c28, hns, hos, Nat.reduceAdd, Nat.reduceSub, Nat.reduceMul, Nat.reduceBEq, Int.reduceToNat, Int.reduceNeg, Int.reduceLE, Int.reduceLT, Int.reduceBEq, Int.reduceBNe, Int.reduceEq, Bool.not_true, Bool.not_false, eq_self, reduceCtorEq]
  refine ⟨fun hlt => ⟨hlt, fun hold => ?_, fun hnew => ?_⟩, fun hge => by rw [show i = N.length by omega]; exact ⟨minNs_all, minOs_all⟩⟩
  · have hlt2 : i < N.length := by omega
    have : isF (clE N O k) i = false := by
      rcases cls_new (O := O) (k := k) hlt2 with ⟨_, h⟩ | ⟨h, _⟩
      · have h2 : atC (clsT N O k) i = (clsT N O k).getD i 0 := rfl
        omega
      · exact h
    rw [(hst i).1, (hst i).2, this]
    exact ⟨hlt2, rfl, rfl⟩
  · have hlt2 : i < N.length := by omega
    have hF : isF (clE N O k) i = true := by
      rcases cls_new (O := O) (k := k) hlt2 with ⟨h, _⟩ | ⟨_, h⟩
      · exact h
      · have h2 : atC (clsT N O k) i = (clsT N O k).getD i 0 := rfl
        omega
    have hn1 := hV.v.row _ (getD_mem' hlt2)
    have ho1 : (O.getD i []).length = k := (hV.orow _ (getD_mem' (by have := hV.ol; omega))).1
    have hrw : rowN N O k i = (N.getD i []).map fun t => (clsT N O k).getD t.toNat 0 := rfl
    refine awp_upto (tyP_ok _) c28 2000 [1, 2, 3, 4, 5, 6, 7] ((N.getD i []).length) (fun _ => True) (fun x => ⟨67, [(1, .fref [.pay (.rows N) z, .pay (.rows O) z']), (2, .ref 0 0), (3, .pay (.ints .i64 (clsT N O k)) false), (4, .ref 1 0), (5, .int .i64 i), (6, .own 2), (7, .int .i64 x)], [.box [.lit (.slice none 0 0), .lit (.slice none 0 0)], .box [.own 3, .own 4], .arr (.ints .i64 (((N.getD i []).take x).map fun t => (clsT N O k).getD t.toNat 0)) ⟨3, true⟩, .arr (.rows (minNs N O k i)) ⟨27, true⟩, .arr (.rows (minOs N O k i)) ⟨27, true⟩]⟩) (by kernel_rfl) ?_ ?_ ?_
    · rw [List.take_zero, List.map_nil]; simp (config := {implicitDefEqProofs := false, maxSteps := 4000000}) (disch := omega) only [push_cast, c28, Nat.reduceAdd, Nat.reduceSub, Nat.reduceMul, Nat.reduceBEq, Int.reduceToNat, Int.reduceNeg, Int.reduceLE, Int.reduceLT, Int.reduceBEq, Int.reduceBNe, Int.reduceEq, Bool.not_true, Bool.not_false, eq_self, reduceCtorEq]
    · trivial
    intro x hx _
    simp (config := {implicitDefEqProofs := false, maxSteps := 4000000}) (disch := omega) only [push_cast, c28, Nat.reduceAdd, Nat.reduceSub, Nat.reduceMul, Nat.reduceBEq, Int.reduceToNat, Int.reduceNeg, Int.reduceLE, Int.reduceLT, Int.reduceBEq, Int.reduceBNe, Int.reduceEq, Bool.not_true, Bool.not_false, eq_self, reduceCtorEq]
    refine ⟨hlt2, fun hxl => ?_, fun hge => ?_⟩
    · have hx1 := hn1.2 _ (getD_mem hxl)
      refine ⟨hlt2, hxl, ⟨hx1.1, by omega⟩, by simp only [List.length_map, List.length_take]; omega, hxl, ?_⟩
      rw [map_take_succI' hxl]
    · rw [List.take_of_length_le hge, ← hrw, (hst i).1, (hst i).2, hF, if_pos rfl, if_pos rfl]
      have hol := hV.ol
      have hce := cntF_le (clE N O k) i
      exact ⟨by omega, by omega, by omega, by omega, hlt2, rfl, rfl⟩
/- mizmaze/mizmazeref07.Count -/
def c30 : VCfg := ⟨⟨[], [], [], [0, 2, 3, 4, 8]⟩, [], [], []⟩
set_option maxRecDepth 100000 in
theorem f30 (l : List Int) (z : Bool) (m : Nat) (hl : l.length ≤ 4611686018427387904) (hm : m ≤ 4611686018427387904) (h1 : ∀ i, i < l.length → 0 ≤ l.getD i 0 ∧ l.getD i 0 < m) (h2 : 0 < m → ∃ i, i < l.length ∧ l.getD i 0 = m - 1) : ACall Tryd.prog 30 [.pay (.ints .i64 l) z] (fun r objs => r = .int .i64 m ∧ objs = []) := by
  refine acall_intro (tyP_ok _) c30 2000 [.tmp 2] Tryd.func30 rfl (by rfl) rfl (by kernel_rfl) ?_
  unfold Tryd.f30
  simp (config := {implicitDefEqProofs := false, maxSteps := 4000000}) (disch := omega) only [push_cast, c30, Nat.reduceAdd, Nat.reduceSub, Nat.reduceMul, Nat.reduceBEq, Int.reduceToNat, Int.reduceNeg, Int.reduceLE, Int.reduceLT, Int.reduceBEq, Int.reduceBNe, Int.reduceEq, Bool.not_true, Bool.not_false, eq_self, reduceCtorEq]
  refine awp_loop (tyP_ok _) c30 2000 [0, 2, 3, 4] (fun n g st => ∃ (i : Nat) (v : Int), g = (false, 0) ∧ i ≤ l.length ∧ 0 ≤ v ∧ v ≤ m ∧ (∀ j, j < i → l.getD j 0 < v) ∧ n = l.length - i ∧ st = ⟨19, [(0, .pay (.ints .i64 l) z), (2, .int .i64 0), (3, .int .i64 v), (4, .int .i64 i)], []⟩) l.length (by kernel_rfl) ?_ ?_
  · exact ⟨0, 0, rfl, Nat.zero_le _, by omega, by omega, fun j hj => by omega, rfl, rfl⟩
  rintro n g st ⟨i, v, rfl, hi, h0, hv, hlt, rfl, rfl⟩
  simp (config := {implicitDefEqProofs := false, maxSteps := 4000000}) (disch := omega) only [push_cast, c30, Nat.reduceAdd, Nat.reduceSub, Nat.reduceMul, Nat.reduceBEq, Int.reduceToNat, Int.reduceNeg, Int.reduceLE, Int.reduceLT, Int.reduceBEq, Int.reduceBNe, Int.reduceEq, Bool.not_true, Bool.not_false, eq_self, reduceCtorEq]
  refine ⟨fun hil => ⟨hil, ?_⟩, fun hge => ?_⟩
  · have := h1 i hil
    rw [wrap_in (by omega)]
    refine ⟨l.length - (i + 1), by omega, i + 1, max v (l.getD i 0 + 1), by omega, by omega, by omega, fun j hj => ?_, rfl, rfl, by omega⟩
    rcases Nat.lt_succ_iff_lt_or_eq.1 hj with hj | rfl
    · have := hlt j hj; omega
    · omega
  · by_cases hm0 : m = 0
    · omega
    · obtain ⟨j, h3, h4⟩ := h2 (by omega)
      have := hlt j (by omega)
      omega
end Go.AM
end

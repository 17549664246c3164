/-
  Contracts of the reference's Much and Suite; conditions in each statement.
-/
import Derived.Test.YtdfocobojkmenaaS7
import Derived.Test.YtdfocobojkmenaaP5
set_option linter.unusedVariables false
set_option linter.unusedSimpArgs false
set_option linter.unusedSectionVars false
set_option linter.unnecessarySimpa false

/-! text Uk26 -/
section
namespace Go.AM
open Go Go.Proofs Go.Sort
theorem mem_midW {k : Nat} : ∀ {f : Nat} {w p : List Int}, p ∈ midW k f w ↔ ∃ v : List Int, v.length ≤ f ∧ (∀ z ∈ v, 0 ≤ z ∧ z < k) ∧ p = w ++ v
  | 0, w, p => by
    simp only [midW, List.mem_singleton]
    constructor
    · rintro rfl; exact ⟨[], by simp, by simp, by simp⟩
    · rintro ⟨v, hv, _, rfl⟩
      have : v = [] := List.length_eq_zero_iff.1 (by omega)
      rw [this, List.append_nil]
  | f + 1, w, p => by
    simp only [midW, List.mem_cons, List.mem_flatMap, List.mem_range]
    constructor
    · rintro (rfl | ⟨x, hx, hp⟩)
      · exact ⟨[], by simp, by simp, by simp⟩
      · obtain ⟨v, hv, hl, rfl⟩ := mem_midW.1 hp
        refine ⟨(x : Int) :: v, by simpa using hv, fun z hz => ?_, by simp⟩
        rcases List.mem_cons.1 hz with rfl | hz
        · omega
        · exact hl z hz
    · rintro ⟨v, hv, hl, rfl⟩
      cases v with
      | nil => left; simp
      | cons y v =>
        right
        have hy := hl y (by simp)
        refine ⟨y.toNat, by omega, mem_midW.2 ⟨v, by simpa using hv, fun z hz => hl z (by simp [hz]), ?_⟩⟩
        rw [show ((y.toNat : Nat) : Int) = y by omega]; simp
theorem midW_len {k : Nat} : ∀ (f : Nat) (w : List Int), (midW k f w).length = geo k f
  | 0, w => rfl
  | f + 1, w => by
    have h : ∀ n, ((List.range n).flatMap fun x : Nat => midW k f (w ++ [(x : Int)])).length = n * geo k f := by
      intro n
      induction n with
      | zero => simp
      | succ n ih =>
        rw [List.range_succ, List.flatMap_append, List.length_append, ih, List.flatMap_cons, List.flatMap_nil, List.append_nil, midW_len, Nat.add_mul]; omega
    rw [geo_mul]
    have e : midW k (f + 1) w = w :: (List.range k).flatMap fun x : Nat => midW k f (w ++ [(x : Int)]) := rfl
    rw [e, List.length_cons, h]; omega
theorem wB_len (B M E : List (List Int)) : (wB B M E).length = B.length * (M.length * E.length) := by
  induction B with
  | nil => simp [wB]
  | cons u B ih =>
    have h : ∀ M : List (List Int), (wM u M E).length = M.length * E.length := by
      intro M
      induction M with
      | nil => simp [wM]
      | cons v M ih =>
        have e : wM u (v :: M) E = wE u v E ++ wM u M E := rfl
        rw [e, List.length_append, ih, wE, List.length_map, List.length_cons, Nat.add_mul]; omega
    have e : wB (u :: B) M E = wM u M E ++ wB B M E := rfl
    rw [e, List.length_append, ih, h, List.length_cons, Nat.add_mul]; omega
/-- the words of the reference are those of the suite -/
theorem ref_once {C E : List (List Int)} {k f : Nat} : onceL (catL (onceL (allV k C f)) E) = onceL (wB C (midW k f []) E) := by
  refine onceL_congr fun p => ?_
  rw [mem_catL, mem_wB]
  constructor
  · rintro ⟨a, ha, w, hw, rfl⟩
    rw [mem_onceL, mem_allV] at ha
    obtain ⟨u, hu, v, hv, hl, rfl⟩ := ha
    exact ⟨u, hu, v, mem_midW.2 ⟨v, hv, hl, by simp⟩, w, hw, rfl⟩
  · rintro ⟨u, hu, v, hv, w, hw, rfl⟩
    obtain ⟨v', h1, h2, e⟩ := mem_midW.1 hv
    rw [List.nil_append] at e
    subst e
    exact ⟨u ++ v, by rw [mem_onceL, mem_allV]; exact ⟨u, hu, v, h1, h2, rfl⟩, w, hw, rfl⟩
def pwr (k i : Nat) : Nat := k ^ i
/- mizmaze/mizmazeref09.Much -/
def c19 : VCfg := ⟨⟨[], [], [], [0, 1, 2, 4, 5, 6, 7, 10]⟩, [(7, (.op 0 .loose (.op 1 .loose (.op 2 .loose (.op 3 .loose (.op 4 .loose (.op 5 .loose (.op 6 .eff (.op 7 .loose (.op 8 .loose (.op 9 .loose .nil)))))))))))], [], []⟩
set_option maxHeartbeats 4000000 in
set_option maxRecDepth 100000 in
theorem f19 (N O : List (List Int)) (z z' : Bool) (k : Nat) (hV : VM N O k) (e : Nat) (he : e ≤ 2) :
    ACall Try.prog 19 [.agg [.pay (.rows (N)) (z), .pay (.rows (O)) (z')], .int .i64 e] (fun r objs => r = .int .i64 (geo k (e + 1) * N.length * (telL N O k).length) ∧ objs = []) := by
  have hn1 := hV.v.n1
  have hn := hV.v.n2
  have hk := hV.v.k2
  have hk0 := hV.k0
  refine acall_intro (tyP_ok _) c19 2000 [.tmp 4] Try.func19 rfl (by rfl) rfl (by kernel_rfl) ?_
  unfold Try.f19
  simp (config := {implicitDefEqProofs := false, maxSteps := 4000000}) (disch := omega) only [push_cast, c19, Nat.reduceAdd, Nat.reduceSub, Nat.reduceMul, Nat.reduceBEq, Int.reduceToNat, Int.reduceNeg, Int.reduceLE, Int.reduceLT, Int.reduceBEq, Int.reduceBNe, Int.reduceEq, Bool.not_true, Bool.not_false, eq_self, reduceCtorEq]
  refine awp_upto (tyP_ok _) c19 2000 [1, 2, 4, 5, 6, 7] ((e + 1)) (fun _ => True) (fun i => ⟨29, [(1, .int .i64 e), (2, .fref [.pay (.rows N) z, .pay (.rows O) z']), (4, .int .i64 0), (5, .int .i64 (geo k i)), (6, .int .i64 (pwr k i)), (7, .int .i64 i)], []⟩) (by kernel_rfl) ?_ ?_ ?_
  · simp (config := {implicitDefEqProofs := false, maxSteps := 4000000}) (disch := omega) only [push_cast, c19, Nat.reduceAdd, Nat.reduceSub, Nat.reduceMul, Nat.reduceBEq, Int.reduceToNat, Int.reduceNeg, Int.reduceLE, Int.reduceLT, Int.reduceBEq, Int.reduceBNe, Int.reduceEq, Bool.not_true, Bool.not_false, eq_self, reduceCtorEq]
    exact ⟨rfl, by simp [pwr]⟩
  · trivial
  intro i hi _
  have hg := geo_sm hk (i := i) (by omega)
  have hp : pwr k i ≤ 216 := pow_sm hk (i := i) (by omega)
  simp (config := {implicitDefEqProofs := false, maxSteps := 4000000}) (disch := omega) only [push_cast, c19, Nat.reduceAdd, Nat.reduceSub, Nat.reduceMul, Nat.reduceBEq, Int.reduceToNat, Int.reduceNeg, Int.reduceLE, Int.reduceLT, Int.reduceBEq, Int.reduceBNe, Int.reduceEq, Bool.not_true, Bool.not_false, eq_self, reduceCtorEq]
  refine ⟨fun hlt => ?_, fun hge => ?_⟩
  · have hg1 : geo k (i + 1) = geo k i + pwr k (i + 1) := rfl
    have hp1 : pwr k (i + 1) = pwr k i * k := rfl
    have hp2 : pwr k (i + 1) ≤ 216 := pow_sm hk (i := i + 1) (by omega)
    refine callW_eq _ _ (f26 N O z z' (by omega)) ?_
    simp (config := {implicitDefEqProofs := false, maxSteps := 4000000}) (disch := omega) only [push_cast, c19, Nat.reduceAdd, Nat.reduceSub, Nat.reduceMul, Nat.reduceBEq, Int.reduceToNat, Int.reduceNeg, Int.reduceLE, Int.reduceLT, Int.reduceBEq, Int.reduceBNe, Int.reduceEq, Bool.not_true, Bool.not_false, eq_self, reduceCtorEq]
    have e1 : (pwr k i : Int) * ((N.getD 0 []).length : Int) = (pwr k (i + 1) : Nat) := by rw [hk0, hp1]; push_cast; rfl
    rw [e1]
    rw [wrap_nat (n := ((pwr k (i + 1) : Nat) : Int)) (by omega) (by omega), wrap_nat (by omega) (by omega)]
    exact ⟨by omega, by omega, rfl⟩
  · have hie : i = e + 1 := by omega
    subst hie
    have htl := telL_len hV
    refine callW_rel (f18 N O z z' k hV) ?_
    rintro R O' ⟨nz, rfl, rfl⟩
    simp (config := {implicitDefEqProofs := false, maxSteps := 4000000}) (disch := omega) only [push_cast, c19, Nat.reduceAdd, Nat.reduceSub, Nat.reduceMul, Nat.reduceBEq, Int.reduceToNat, Int.reduceNeg, Int.reduceLE, Int.reduceLT, Int.reduceBEq, Int.reduceBNe, Int.reduceEq, Bool.not_true, Bool.not_false, eq_self, reduceCtorEq]
    have h1 : geo k (e + 1) * N.length ≤ 649 * 60 := Nat.mul_le_mul hg hn
    have h2 : geo k (e + 1) * N.length * (telL N O k).length ≤ 649 * 60 * 3600 := Nat.mul_le_mul h1 htl
    have e1 : (geo k (e + 1) : Int) * (N.length : Int) = ((geo k (e + 1) * N.length : Nat) : Int) := by push_cast; rfl
    rw [e1, wrap_nat (n := ((geo k (e + 1) * N.length : Nat) : Int)) (by omega) (by omega)]
    have e2 : ((geo k (e + 1) * N.length : Nat) : Int) * ((telL N O k).length : Int) = ((geo k (e + 1) * N.length * (telL N O k).length : Nat) : Int) := by push_cast; rfl
    rw [e2, wrap_nat (by omega) (by omega)]
/- mizmaze/mizmazeref09.Suite -/
def c21 : VCfg := ⟨⟨[], [], [8, 12], [0, 1, 2, 4, 5, 6, 7, 8, 9, 10, 11, 12, 13, 14, 20, 26, 32, 59, 65]⟩, [(25, (.op 0 .strict (.op 2 .strict (.op 3 .strict (.op 4 .strict (.op 5 .strict (.op 7 .strict (.op 8 .strict (.op 9 .strict (.op 10 .strict (.op 1 .eff (.op 6 .eff (.op 11 .eff (.op 12 .eff (.op 13 .eff (.op 14 .loose .nil))))))))))))))))], [], []⟩
set_option maxHeartbeats 16000000 in
set_option maxRecDepth 100000 in
theorem f21 (N O : List (List Int)) (z z' : Bool) (k : Nat) (hV : VM N O k) (hAll : allC N k = true) (e : Nat) (he : e ≤ 2) :
    ACall Try.prog 21 [.agg [.pay (.rows (N)) (z), .pay (.rows (O)) (z')], .int .i64 e] (fun r objs => ∃ nz, r = .pay (.rows (onceL (sufL N O k e))) nz ∧ objs = []) := by
  have hn1 := hV.v.n1
  have hn := hV.v.n2
  have hk := hV.v.k2
  have hk0 := hV.k0
  have hcl : (covL N k).length = N.length := cov_len
  have hcw : ∀ r ∈ covL N k, r.length ≤ 60 := fun r hr => (covL_mem hV hAll hr).2
  refine acall_intro (tyP_ok _) c21 2000 [.tmp 4] Try.func21 rfl (by rfl) rfl (by kernel_rfl) ?_
  unfold Try.f21
  simp (config := {implicitDefEqProofs := false, maxSteps := 4000000}) (disch := omega) only [push_cast, c21, Nat.reduceAdd, Nat.reduceSub, Nat.reduceMul, Nat.reduceBEq, Int.reduceToNat, Int.reduceNeg, Int.reduceLE, Int.reduceLT, Int.reduceBEq, Int.reduceBNe, Int.reduceEq, Bool.not_true, Bool.not_false, eq_self, reduceCtorEq]
  refine callW_rel (refCov N O z z' k hV) ?_
  rintro R O' ⟨rfl, rfl⟩
  simp (config := {implicitDefEqProofs := false, maxSteps := 4000000}) (disch := omega) only [push_cast, c21, Nat.reduceAdd, Nat.reduceSub, Nat.reduceMul, Nat.reduceBEq, Int.reduceToNat, Int.reduceNeg, Int.reduceLE, Int.reduceLT, Int.reduceBEq, Int.reduceBNe, Int.reduceEq, Bool.not_true, Bool.not_false, eq_self, reduceCtorEq]
  generalize hC : covL N k = C at *
  have hC60 : C.length ≤ 60 := by omega
  have hvw : ∀ i, i ≤ 3 → ∀ r ∈ lvl k C i, r.length ≤ 63 := fun i hi r hr => by
    obtain ⟨u, hu, v, hv, _, rfl⟩ := mem_lvl.1 hr
    have := hcw u hu
    rw [List.length_append]; omega
  have haw : ∀ i, i ≤ 3 → ∀ r ∈ allV k C i, r.length ≤ 63 := fun i hi r hr => by
    obtain ⟨u, hu, v, hv, _, rfl⟩ := mem_allV.1 hr
    have := hcw u hu
    rw [List.length_append]; omega
  refine awp_loop (tyP_ok _) c21 2000 [1, 2, 4, 5, 6, 7] (fun n g st => ∃ i : Nat, g = (false, 0) ∧ i ≤ e + 1 ∧ n = e + 1 - i ∧ ((i = 0 ∧ st = ⟨84, [(1, .int .i64 e), (2, .fref [.pay (.rows N) z, .pay (.rows O) z']), (4, .pay (.rows []) true), (5, .own 0), (6, .own 0), (7, .int .i64 0)], [.arr (.rows C) ⟨37, false⟩]⟩) ∨ (1 ≤ i ∧ ∃ nz, st = ⟨84, [(1, .int .i64 e), (2, .fref [.pay (.rows N) z, .pay (.rows O) z']), (4, .pay (.rows []) true), (5, .pay (.rows (lvl k C i)) nz), (6, .own 0), (7, .int .i64 i)], [.arr (.rows (allV k C i)) ⟨37, false⟩]⟩))) (e + 1) (by kernel_rfl) ?_ ?_
  · simp (config := {implicitDefEqProofs := false, maxSteps := 4000000}) (disch := omega) only [push_cast, c21, Nat.reduceAdd, Nat.reduceSub, Nat.reduceMul, Nat.reduceBEq, Int.reduceToNat, Int.reduceNeg, Int.reduceLE, Int.reduceLT, Int.reduceBEq, Int.reduceBNe, Int.reduceEq, Bool.not_true, Bool.not_false, eq_self, reduceCtorEq]
    exact ⟨0, by omega, by omega, .inl rfl⟩
  rintro n g st ⟨i, rfl, hi, rfl, ⟨rfl, rfl⟩ | ⟨hi1, nz5, rfl⟩⟩
  · simp (config := {implicitDefEqProofs := false, maxSteps := 4000000}) (disch := omega) only [push_cast, c21, Nat.reduceAdd, Nat.reduceSub, Nat.reduceMul, Nat.reduceBEq, Int.reduceToNat, Int.reduceNeg, Int.reduceLE, Int.reduceLT, Int.reduceBEq, Int.reduceBNe, Int.reduceEq, Bool.not_true, Bool.not_false, eq_self, reduceCtorEq]
    refine awp_upto (tyP_ok _) c21 2000 [1, 2, 4, 5, 6, 7, 8, 9] (C.length) (fun _ => True) (fun j => ⟨84, [(1, .int .i64 e), (2, .fref [.pay (.rows N) z, .pay (.rows O) z']), (4, .pay (.rows []) true), (5, .own 0), (6, .own 0), (7, .int .i64 0), (8, .own 1), (9, .int .i64 j)], [.arr (.rows C) ⟨37, false⟩, .arr (.rows (stpP k C j 0)) ⟨37, true⟩]⟩) (by kernel_rfl) ?_ ?_ ?_
    · simp (config := {implicitDefEqProofs := false, maxSteps := 4000000}) (disch := omega) only [push_cast, c21, Nat.reduceAdd, Nat.reduceSub, Nat.reduceMul, Nat.reduceBEq, Int.reduceToNat, Int.reduceNeg, Int.reduceLE, Int.reduceLT, Int.reduceBEq, Int.reduceBNe, Int.reduceEq, Bool.not_true, Bool.not_false, eq_self, reduceCtorEq]
      rfl
    · trivial
    intro j hj _
    simp (config := {implicitDefEqProofs := false, maxSteps := 4000000}) (disch := omega) only [push_cast, c21, Nat.reduceAdd, Nat.reduceSub, Nat.reduceMul, Nat.reduceBEq, Int.reduceToNat, Int.reduceNeg, Int.reduceLE, Int.reduceLT, Int.reduceBEq, Int.reduceBNe, Int.reduceEq, Bool.not_true, Bool.not_false, eq_self, reduceCtorEq]
    refine ⟨fun hjl => ?_, fun hjg => ?_⟩
    · have hbw := hcw _ (by rw [List.getD_eq_getElem?_getD, List.getElem?_eq_getElem hjl]; exact List.getElem_mem _ : C.getD j [] ∈ C)
      refine awp_upto (tyP_ok _) c21 2000 [1, 2, 4, 5, 6, 7, 8, 9, 10] (k) (fun _ => True) (fun x => ⟨84, [(1, .int .i64 e), (2, .fref [.pay (.rows N) z, .pay (.rows O) z']), (4, .pay (.rows []) true), (5, .own 0), (6, .own 0), (7, .int .i64 0), (8, .own 1), (9, .int .i64 j), (10, .int .i64 x)], [.arr (.rows C) ⟨37, false⟩, .arr (.rows (stpP k C j x)) ⟨37, true⟩]⟩) (by kernel_rfl) ?_ ?_ ?_
      · simp (config := {implicitDefEqProofs := false, maxSteps := 4000000}) (disch := omega) only [push_cast, c21, Nat.reduceAdd, Nat.reduceSub, Nat.reduceMul, Nat.reduceBEq, Int.reduceToNat, Int.reduceNeg, Int.reduceLE, Int.reduceLT, Int.reduceBEq, Int.reduceBNe, Int.reduceEq, Bool.not_true, Bool.not_false, eq_self, reduceCtorEq]
      · trivial
      intro x hx _
      have hsl := stpP_len hk (B := C) (j := j) hx
      simp (config := {implicitDefEqProofs := false, maxSteps := 4000000}) (disch := omega) only [push_cast, c21, Nat.reduceAdd, Nat.reduceSub, Nat.reduceMul, Nat.reduceBEq, Int.reduceToNat, Int.reduceNeg, Int.reduceLE, Int.reduceLT, Int.reduceBEq, Int.reduceBNe, Int.reduceEq, Bool.not_true, Bool.not_false, eq_self, reduceCtorEq]
      refine callW_eq _ _ (f26 N O z z' (by omega)) ?_
      simp (config := {implicitDefEqProofs := false, maxSteps := 4000000}) (disch := omega) only [push_cast, c21, Nat.reduceAdd, Nat.reduceSub, Nat.reduceMul, Nat.reduceBEq, Int.reduceToNat, Int.reduceNeg, Int.reduceLE, Int.reduceLT, Int.reduceBEq, Int.reduceBNe, Int.reduceEq, Bool.not_true, Bool.not_false, eq_self, reduceCtorEq]
      exact ⟨fun hxl => ⟨hjl, by omega, by omega, by omega, by omega, stpP_x.symm⟩, fun hxg => ⟨hjl, by rw [stpP_j hjl, show x = k by omega]⟩⟩
    · rw [stpP_end (by omega)]
      have hsl := stpL_len (k := k) (B := C)
      have hsk : C.length * k ≤ 12960 * 6 := Nat.mul_le_mul (by omega) hk
      refine callW_rel (f51 _ _ _ rfl (by omega) (fun r hr => by
        obtain ⟨b, hb, y, _, rfl⟩ := mem_stpL.1 hr
        have := hcw b hb
        rw [List.length_append, List.length_singleton]; omega)) ?_
      rintro R O' ⟨⟨nz6, rfl⟩, rfl⟩
      have hol := onceL_length_le (stpL k C)
      simp (config := {implicitDefEqProofs := false, maxSteps := 4000000}) (disch := omega) only [push_cast, c21, Nat.reduceAdd, Nat.reduceSub, Nat.reduceMul, Nat.reduceBEq, Int.reduceToNat, Int.reduceNeg, Int.reduceLE, Int.reduceLT, Int.reduceBEq, Int.reduceBNe, Int.reduceEq, Bool.not_true, Bool.not_false, eq_self, reduceCtorEq]
      exact ⟨by omega, e, by omega, 1, by omega, by omega, .inr ⟨by omega, nz6, ⟨⟨rfl, rfl⟩, rfl⟩, rfl⟩⟩
  · obtain ⟨hs1, hs2⟩ := lvl_sm hk hC60 (i := i) (by omega)
    simp (config := {implicitDefEqProofs := false, maxSteps := 4000000}) (disch := omega) only [push_cast, c21, Nat.reduceAdd, Nat.reduceSub, Nat.reduceMul, Nat.reduceBEq, Int.reduceToNat, Int.reduceNeg, Int.reduceLE, Int.reduceLT, Int.reduceBEq, Int.reduceBNe, Int.reduceEq, Bool.not_true, Bool.not_false, eq_self, reduceCtorEq]
    refine ⟨fun hie => ?_, fun hie => ?_⟩
    · have hlw := hvw i (by omega)
      have hln : lvl k C (i + 1) = onceL (stpL k (lvl k C i)) := rfl
      have han : allV k C (i + 1) = allV k C i ++ lvl k C (i + 1) := rfl
      generalize hBe : lvl k C i = B at *
      refine awp_upto (tyP_ok _) c21 2000 [1, 2, 4, 5, 6, 7, 8, 9] (B.length) (fun _ => True) (fun j => ⟨84, [(1, .int .i64 e), (2, .fref [.pay (.rows N) z, .pay (.rows O) z']), (4, .pay (.rows []) true), (5, .pay (.rows B) nz5), (6, .own 0), (7, .int .i64 i), (8, .own 1), (9, .int .i64 j)], [.arr (.rows (allV k C i)) ⟨37, false⟩, .arr (.rows (stpP k B j 0)) ⟨37, true⟩]⟩) (by kernel_rfl) ?_ ?_ ?_
      · simp (config := {implicitDefEqProofs := false, maxSteps := 4000000}) (disch := omega) only [push_cast, c21, Nat.reduceAdd, Nat.reduceSub, Nat.reduceMul, Nat.reduceBEq, Int.reduceToNat, Int.reduceNeg, Int.reduceLE, Int.reduceLT, Int.reduceBEq, Int.reduceBNe, Int.reduceEq, Bool.not_true, Bool.not_false, eq_self, reduceCtorEq]
        rfl
      · trivial
      intro j hj _
      simp (config := {implicitDefEqProofs := false, maxSteps := 4000000}) (disch := omega) only [push_cast, c21, Nat.reduceAdd, Nat.reduceSub, Nat.reduceMul, Nat.reduceBEq, Int.reduceToNat, Int.reduceNeg, Int.reduceLE, Int.reduceLT, Int.reduceBEq, Int.reduceBNe, Int.reduceEq, Bool.not_true, Bool.not_false, eq_self, reduceCtorEq]
      refine ⟨fun hjl => ?_, fun hjg => ?_⟩
      · have hbw := hlw _ (by rw [List.getD_eq_getElem?_getD, List.getElem?_eq_getElem hjl]; exact List.getElem_mem _ : B.getD j [] ∈ B)
        refine awp_upto (tyP_ok _) c21 2000 [1, 2, 4, 5, 6, 7, 8, 9, 10] (k) (fun _ => True) (fun x => ⟨84, [(1, .int .i64 e), (2, .fref [.pay (.rows N) z, .pay (.rows O) z']), (4, .pay (.rows []) true), (5, .pay (.rows B) nz5), (6, .own 0), (7, .int .i64 i), (8, .own 1), (9, .int .i64 j), (10, .int .i64 x)], [.arr (.rows (allV k C i)) ⟨37, false⟩, .arr (.rows (stpP k B j x)) ⟨37, true⟩]⟩) (by kernel_rfl) ?_ ?_ ?_
        · simp (config := {implicitDefEqProofs := false, maxSteps := 4000000}) (disch := omega) only [push_cast, c21, Nat.reduceAdd, Nat.reduceSub, Nat.reduceMul, Nat.reduceBEq, Int.reduceToNat, Int.reduceNeg, Int.reduceLE, Int.reduceLT, Int.reduceBEq, Int.reduceBNe, Int.reduceEq, Bool.not_true, Bool.not_false, eq_self, reduceCtorEq]
        · trivial
        intro x hx _
        have hsl := stpP_len hk (B := B) (j := j) hx
        simp (config := {implicitDefEqProofs := false, maxSteps := 4000000}) (disch := omega) only [push_cast, c21, Nat.reduceAdd, Nat.reduceSub, Nat.reduceMul, Nat.reduceBEq, Int.reduceToNat, Int.reduceNeg, Int.reduceLE, Int.reduceLT, Int.reduceBEq, Int.reduceBNe, Int.reduceEq, Bool.not_true, Bool.not_false, eq_self, reduceCtorEq]
        refine callW_eq _ _ (f26 N O z z' (by omega)) ?_
        simp (config := {implicitDefEqProofs := false, maxSteps := 4000000}) (disch := omega) only [push_cast, c21, Nat.reduceAdd, Nat.reduceSub, Nat.reduceMul, Nat.reduceBEq, Int.reduceToNat, Int.reduceNeg, Int.reduceLE, Int.reduceLT, Int.reduceBEq, Int.reduceBNe, Int.reduceEq, Bool.not_true, Bool.not_false, eq_self, reduceCtorEq]
        exact ⟨fun hxl => ⟨hjl, by omega, by omega, by omega, by omega, stpP_x.symm⟩, fun hxg => ⟨hjl, by rw [stpP_j hjl, show x = k by omega]⟩⟩
      · rw [stpP_end (by omega)]
        have hsl := stpL_len (k := k) (B := B)
        have hsk : B.length * k ≤ 12960 * 6 := Nat.mul_le_mul (by omega) hk
        refine callW_rel (f51 _ _ _ rfl (by omega) (fun r hr => by
          obtain ⟨b, hb, y, _, rfl⟩ := mem_stpL.1 hr
          have := hlw b hb
          rw [List.length_append, List.length_singleton]; omega)) ?_
        rintro R O' ⟨⟨nz6, rfl⟩, rfl⟩
        have hol := onceL_length_le (stpL k B)
        simp (config := {implicitDefEqProofs := false, maxSteps := 4000000}) (disch := omega) only [push_cast, c21, Nat.reduceAdd, Nat.reduceSub, Nat.reduceMul, Nat.reduceBEq, Int.reduceToNat, Int.reduceNeg, Int.reduceLE, Int.reduceLT, Int.reduceBEq, Int.reduceBNe, Int.reduceEq, Bool.not_true, Bool.not_false, eq_self, reduceCtorEq]
        rw [← hln] at hol ⊢
        have hs3 := (lvl_sm hk hC60 (i := i + 1) (by omega)).1
        exact ⟨by omega, e - i, by omega, i + 1, by omega, by omega, .inr ⟨by omega, nz6, ⟨⟨rfl, rfl⟩, by omega⟩, han.symm⟩⟩
    · have hie : i = e + 1 := by omega
      subst hie
      refine callW_rel (f51 _ _ _ rfl (by omega) (fun r hr => by have := haw _ (by omega) r hr; omega)) ?_
      rintro R O' ⟨⟨nz6, rfl⟩, rfl⟩
      simp (config := {implicitDefEqProofs := false, maxSteps := 4000000}) (disch := omega) only [push_cast, c21, Nat.reduceAdd, Nat.reduceSub, Nat.reduceMul, Nat.reduceBEq, Int.reduceToNat, Int.reduceNeg, Int.reduceLE, Int.reduceLT, Int.reduceBEq, Int.reduceBNe, Int.reduceEq, Bool.not_true, Bool.not_false, eq_self, reduceCtorEq]
      have hAl := onceL_length_le (allV k C (e + 1))
      have hAw : ∀ r ∈ onceL (allV k C (e + 1)), r.length ≤ 63 := fun r hr => haw _ (by omega) r (mem_onceL.1 hr)
      have hfin : onceL (catL (onceL (allV k C (e + 1))) (telL N O k)) = onceL (sufL N O k e) := by rw [ref_once, sufL, hC]
      generalize hAe : onceL (allV k C (e + 1)) = A at *
      refine callW_rel (f18 N O z z' k hV) ?_
      rintro R O' ⟨nz7, rfl, rfl⟩
      simp (config := {implicitDefEqProofs := false, maxSteps := 4000000}) (disch := omega) only [push_cast, c21, Nat.reduceAdd, Nat.reduceSub, Nat.reduceMul, Nat.reduceBEq, Int.reduceToNat, Int.reduceNeg, Int.reduceLE, Int.reduceLT, Int.reduceBEq, Int.reduceBNe, Int.reduceEq, Bool.not_true, Bool.not_false, eq_self, reduceCtorEq]
      have hEl := telL_len hV
      have hEw : ∀ r ∈ telL N O k, r.length ≤ 3600 := fun r hr => (telL_mem hV hr).2
      generalize hEe : telL N O k = E at *
      refine awp_upto (tyP_ok _) c21 2000 [1, 2, 4, 6, 11, 12, 13] (A.length) (fun _ => True) (fun a => ⟨84, [(1, .int .i64 e), (2, .fref [.pay (.rows N) z, .pay (.rows O) z']), (4, .pay (.rows []) true), (6, .pay (.rows A) nz6), (11, .pay (.rows E) nz7), (12, .own 0), (13, .int .i64 a)], [.arr (.rows (catP A E a 0)) ⟨37, true⟩]⟩) (by kernel_rfl) ?_ ?_ ?_
      · simp (config := {implicitDefEqProofs := false, maxSteps := 4000000}) (disch := omega) only [push_cast, c21, Nat.reduceAdd, Nat.reduceSub, Nat.reduceMul, Nat.reduceBEq, Int.reduceToNat, Int.reduceNeg, Int.reduceLE, Int.reduceLT, Int.reduceBEq, Int.reduceBNe, Int.reduceEq, Bool.not_true, Bool.not_false, eq_self, reduceCtorEq]
        rfl
      · trivial
      intro a ha _
      simp (config := {implicitDefEqProofs := false, maxSteps := 4000000}) (disch := omega) only [push_cast, c21, Nat.reduceAdd, Nat.reduceSub, Nat.reduceMul, Nat.reduceBEq, Int.reduceToNat, Int.reduceNeg, Int.reduceLE, Int.reduceLT, Int.reduceBEq, Int.reduceBNe, Int.reduceEq, Bool.not_true, Bool.not_false, eq_self, reduceCtorEq]
      refine ⟨fun hal => ?_, fun hag => ?_⟩
      · have hbw := hAw _ (by rw [List.getD_eq_getElem?_getD, List.getElem?_eq_getElem hal]; exact List.getElem_mem _ : A.getD a [] ∈ A)
        refine awp_upto (tyP_ok _) c21 2000 [1, 2, 4, 6, 11, 12, 13, 14] (E.length) (fun _ => True) (fun b => ⟨84, [(1, .int .i64 e), (2, .fref [.pay (.rows N) z, .pay (.rows O) z']), (4, .pay (.rows []) true), (6, .pay (.rows A) nz6), (11, .pay (.rows E) nz7), (12, .own 0), (13, .int .i64 a), (14, .int .i64 b)], [.arr (.rows (catP A E a b)) ⟨37, true⟩]⟩) (by kernel_rfl) ?_ ?_ ?_
        · simp (config := {implicitDefEqProofs := false, maxSteps := 4000000}) (disch := omega) only [push_cast, c21, Nat.reduceAdd, Nat.reduceSub, Nat.reduceMul, Nat.reduceBEq, Int.reduceToNat, Int.reduceNeg, Int.reduceLE, Int.reduceLT, Int.reduceBEq, Int.reduceBNe, Int.reduceEq, Bool.not_true, Bool.not_false, eq_self, reduceCtorEq]
        · trivial
        intro b hb _
        have hcl2 := catP_len (A := A) (E := E) (i := a) (j := b) (by omega) hEl
        have hbe := fun h : b < E.length => hEw (E.getD b []) (by rw [List.getD_eq_getElem?_getD, List.getElem?_eq_getElem h]; exact List.getElem_mem _)
        simp (config := {implicitDefEqProofs := false, maxSteps := 4000000}) (disch := omega) only [push_cast, c21, Nat.reduceAdd, Nat.reduceSub, Nat.reduceMul, Nat.reduceBEq, Int.reduceToNat, Int.reduceNeg, Int.reduceLE, Int.reduceLT, Int.reduceBEq, Int.reduceBNe, Int.reduceEq, Bool.not_true, Bool.not_false, eq_self, reduceCtorEq]
        exact ⟨fun hbl => ⟨hal, hbl, by omega, by have := hbe hbl; omega, by omega, hbl, (catP_j hbl).symm⟩, fun hbg => ⟨hal, by rw [catP_i hal, show b = E.length by omega]⟩⟩
      · rw [catP_end (by omega)]
        have hcl2 := catL_len (A := A) (E := E)
        have hck : A.length * E.length ≤ 15540 * 3600 := Nat.mul_le_mul (by omega) hEl
        refine callW_rel (f51 _ _ _ rfl (by omega) (fun r hr => by
          obtain ⟨u, hu, w, hw, rfl⟩ := mem_catL.1 hr
          have := hAw u hu
          have := hEw w hw
          rw [List.length_append]; omega)) ?_
        rintro R O' ⟨⟨nz8, rfl⟩, rfl⟩
        simp (config := {implicitDefEqProofs := false, maxSteps := 4000000}) (disch := omega) only [push_cast, c21, Nat.reduceAdd, Nat.reduceSub, Nat.reduceMul, Nat.reduceBEq, Int.reduceToNat, Int.reduceNeg, Int.reduceLE, Int.reduceLT, Int.reduceBEq, Int.reduceBNe, Int.reduceEq, Bool.not_true, Bool.not_false, eq_self, reduceCtorEq]
        exact ⟨_, hfin, rfl⟩
end Go.AM
end

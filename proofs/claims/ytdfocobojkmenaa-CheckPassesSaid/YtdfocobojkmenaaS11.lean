/-
  Contracts of ends and CheckMore; conditions in each statement.
-/
import Derived.Test.YtdfocobojkmenaaS10
set_option linter.unusedVariables false
set_option linter.unusedSimpArgs false
set_option linter.unusedSectionVars false
set_option linter.unnecessarySimpa false

/-! text Uk28 -/
section
namespace Go.AM
open Go Go.Proofs Go.Sort
theorem mem_at {l : List (List Int)} {x : List Int} (h : x ∈ l) : ∃ p, p < l.length ∧ l.getD p [] = x := by
  obtain ⟨p, hp, rfl⟩ := List.getElem_of_mem h
  exact ⟨p, hp, by simp [List.getD, hp]⟩
theorem suf_iff {w t : List Int} : t <:+ w ↔ t.length ≤ w.length ∧ w.drop (w.length - t.length) = t := by
  constructor
  · intro h
    exact ⟨h.length_le, (List.suffix_iff_eq_drop.1 h).symm⟩
  · rintro ⟨_, h⟩
    rw [← h]; exact List.drop_suffix _ _
/- mizmaze/mizmazelaw09.ends -/
def c24 : VCfg := ⟨⟨[], [], [], [0, 1, 4, 5, 6, 10, 32]⟩, [(5, (.op 0 .loose (.op 1 .loose (.op 2 .loose (.op 3 .loose (.op 4 .loose (.op 5 .loose (.op 6 .loose (.op 7 .loose (.op 8 .loose (.op 9 .loose (.op 10 .eff (.op 11 .loose .nil)))))))))))))], [], []⟩
set_option maxHeartbeats 4000000 in
set_option maxRecDepth 100000 in
theorem f24 (w : List Int) (L : List (List Int)) (z z' : Bool) (hw : w.length ≤ 1000000) (hl : L.length ≤ 1000000) (hL : ∀ r ∈ L, r.length ≤ 1000000) :
    ACall Try.prog 24 [.pay (.ints .i64 w) z, .pay (.rows L) z'] (fun r objs => ∃ b, r = .bool b ∧ ((∃ t ∈ L, t <:+ w) → b = true) ∧ objs = []) := by
  refine acall_intro (tyP_ok _) c24 2000 [.tmp 4] Try.func24 rfl (by rfl) rfl (by kernel_rfl) ?_
  unfold Try.f24
  simp (config := {implicitDefEqProofs := false, maxSteps := 4000000}) (disch := omega) only [push_cast, c24, Nat.reduceAdd, Nat.reduceSub, Nat.reduceMul, Nat.reduceBEq, Int.reduceToNat, Int.reduceNeg, Int.reduceLE, Int.reduceLT, Int.reduceBEq, Int.reduceBNe, Int.reduceEq, Bool.not_true, Bool.not_false, eq_self, reduceCtorEq]
  refine awp_upto (tyP_ok _) c24 2000 [0, 1, 4, 5] (L.length) (fun j => ∀ j', j' < j → ¬ L.getD j' [] <:+ w) (fun j => ⟨33, [(0, .pay (.ints .i64 w) z), (1, .pay (.rows L) z'), (4, .bool false), (5, .int .i64 j)], []⟩) (by kernel_rfl) ?_ ?_ ?_
  · simp (config := {implicitDefEqProofs := false, maxSteps := 4000000}) (disch := omega) only [push_cast, c24, Nat.reduceAdd, Nat.reduceSub, Nat.reduceMul, Nat.reduceBEq, Int.reduceToNat, Int.reduceNeg, Int.reduceLE, Int.reduceLT, Int.reduceBEq, Int.reduceBNe, Int.reduceEq, Bool.not_true, Bool.not_false, eq_self, reduceCtorEq]
  · exact fun j hj => by omega
  intro j hj hp
  simp (config := {implicitDefEqProofs := false, maxSteps := 4000000}) (disch := omega) only [push_cast, c24, Nat.reduceAdd, Nat.reduceSub, Nat.reduceMul, Nat.reduceBEq, Int.reduceToNat, Int.reduceNeg, Int.reduceLE, Int.reduceLT, Int.reduceBEq, Int.reduceBNe, Int.reduceEq, Bool.not_true, Bool.not_false, eq_self, reduceCtorEq]
  refine ⟨fun hlt => ?_, fun hge => ⟨false, rfl, fun ⟨t, ht, h⟩ => ?_⟩⟩
  · have hj2 := hL (L.getD j []) (by rw [List.getD_eq_getElem?_getD, List.getElem?_eq_getElem hlt]; exact List.getElem_mem _)
    rw [wrap_i64 (n := (w.length : Int) - ((L.getD j []).length : Int)) (by omega) (by omega)]
    refine ⟨hlt, fun h0 => ⟨⟨by omega, by omega, Nat.le_refl _⟩, hlt, ?_⟩, fun h0 => ⟨hlt, upto_succ hp fun h => by have := h.length_le; omega⟩⟩
    have e0 : ((w.length : Int) - ((L.getD j []).length : Int)).toNat = w.length - (L.getD j []).length := by omega
    rw [e0, List.take_of_length_le (by rw [List.length_drop]; omega)]
    refine callW_rel (f23 (w.drop (w.length - (L.getD j []).length)) (L.getD j []) false false (by rw [List.length_drop]; omega)) ?_
    rintro R O' ⟨rfl, rfl⟩
    simp (config := {implicitDefEqProofs := false, maxSteps := 4000000}) (disch := omega) only [push_cast, c24, Nat.reduceAdd, Nat.reduceSub, Nat.reduceMul, Nat.reduceBEq, Int.reduceToNat, Int.reduceNeg, Int.reduceLE, Int.reduceLT, Int.reduceBEq, Int.reduceBNe, Int.reduceEq, Bool.not_true, Bool.not_false, eq_self, reduceCtorEq]
    refine ⟨fun he => ⟨true, rfl, fun _ => rfl⟩, fun he => ⟨hlt, upto_succ hp fun h => he (suf_iff.1 h).2⟩⟩
  · exfalso
    obtain ⟨p, hp1, rfl⟩ := mem_at ht
    exact hp p (by omega) h
/-- where a word of a strictly sorted list lies -/
theorem SS.idx {l : List (List Int)} (h : SS l) {i j : Nat} (hij : i < j) (hj : j < l.length) : befB (l.getD i []) (l.getD j []) = true := by
  have e1 : l.getD i [] = l[i] := by simp [List.getD, show i < l.length by omega]
  have e2 : l.getD j [] = l[j] := by simp [List.getD, hj]
  rw [e1, e2]
  exact List.pairwise_iff_getElem.1 h i j (by omega) hj hij
/-- more further states, more words -/
theorem suf_sub {N O : List (List Int)} {k e : Nat} {p : List Int} (h : p ∈ sufL N O k e) : p ∈ sufL N O k (e + 1) := by
  obtain ⟨u, hu, v, hv, w, hw, rfl⟩ := mem_wB.1 h
  refine mem_wB.2 ⟨u, hu, v, ?_, w, hw, rfl⟩
  obtain ⟨v', h1, h2, h3⟩ := mem_midW.1 hv
  exact mem_midW.2 ⟨v', by omega, h2, h3⟩
theorem suf_end {N O : List (List Int)} {k e : Nat} {p : List Int} (h : p ∈ sufL N O k e) : ∃ t ∈ telL N O k, t <:+ p := by
  obtain ⟨u, hu, v, hv, w, hw, rfl⟩ := mem_wB.1 h
  exact ⟨w, hw, List.suffix_append _ _⟩
/- mizmaze/mizmazelaw09.CheckMore -/
def c5 : VCfg := ⟨⟨[], [], [], [0, 1, 2, 4, 5, 6, 7, 8, 9, 10, 11, 12, 13, 35, 64, 68, 85, 112]⟩, [(13, (.op 0 .loose (.op 1 .loose (.op 2 .loose (.op 3 .loose (.op 4 .loose (.op 5 .loose (.op 6 .loose (.op 7 .loose (.op 8 .loose (.op 9 .loose (.op 10 .loose (.op 11 .loose (.op 12 .loose (.op 13 .eff (.op 14 .loose .nil)))))))))))))))), (15, (.op 0 .loose (.op 1 .loose (.op 2 .loose (.op 3 .loose (.op 4 .loose (.op 5 .loose (.op 6 .loose (.op 7 .loose (.op 8 .loose (.op 9 .loose (.op 10 .loose (.op 11 .loose (.op 12 .loose (.op 13 .eff (.op 14 .loose (.op 15 .loose (.op 16 .loose (.op 17 .loose (.op 18 .loose (.op 19 .loose (.op 20 .loose (.op 21 .loose (.op 22 .eff (.op 23 .loose (.op 24 .loose .nil))))))))))))))))))))))))))], [], []⟩
set_option maxHeartbeats 8000000 in
set_option maxRecDepth 100000 in
theorem f5 (N O : List (List Int)) (x : Int) (hx : 0 ≤ x ∧ x < 256) (hl : N.length ≤ 4611686018427387904) (hl2 : O.length ≤ 4611686018427387904) :
    ACall Try.prog 5 [.agg [.pay (.rows (N)) (false), .pay (.rows (O)) (false)], .int .u8 x] (fun r objs => r = .bool true ∧ objs = []) := by
  obtain ⟨m, rfl⟩ : ∃ m : Nat, x = m := ⟨x.toNat, by omega⟩
  refine acall_intro (tyP_ok _) c5 2000 [.tmp 4] Try.func5 rfl (by rfl) rfl (by kernel_rfl) ?_
  unfold Try.f5
  simp (config := {implicitDefEqProofs := false, maxSteps := 4000000}) (disch := omega) only [push_cast, c5, Nat.reduceAdd, Nat.reduceSub, Nat.reduceMul, Nat.reduceBEq, Int.reduceToNat, Int.reduceNeg, Int.reduceLE, Int.reduceLT, Int.reduceBEq, Int.reduceBNe, Int.reduceEq, Bool.not_true, Bool.not_false, eq_self, reduceCtorEq]
  refine callW_rel (f10 N O false false hl hl2) ?_
  rintro R O' ⟨b, rfl, hb, rfl⟩
  simp (config := {implicitDefEqProofs := false, maxSteps := 4000000}) (disch := omega) only [push_cast, c5, Nat.reduceAdd, Nat.reduceSub, Nat.reduceMul, Nat.reduceBEq, Int.reduceToNat, Int.reduceNeg, Int.reduceLE, Int.reduceLT, Int.reduceBEq, Int.reduceBNe, Int.reduceEq, Bool.not_true, Bool.not_false, eq_self, reduceCtorEq]
  refine ⟨fun h => ?_, fun h => ?_⟩
  · refine callW_eq _ _ (f11) ?_
    simp (config := {implicitDefEqProofs := false, maxSteps := 4000000}) (disch := omega) only [push_cast, c5, Nat.reduceAdd, Nat.reduceSub, Nat.reduceMul, Nat.reduceBEq, Int.reduceToNat, Int.reduceNeg, Int.reduceLE, Int.reduceLT, Int.reduceBEq, Int.reduceBNe, Int.reduceEq, Bool.not_true, Bool.not_false, eq_self, reduceCtorEq]
  have hb := nb (hb h)
  refine callW_eq _ _ (f14 N O false false hb.1.1 hb.1.2 hb.2.1 hb.2.2) ?_
  simp (config := {implicitDefEqProofs := false, maxSteps := 4000000}) (disch := omega) only [push_cast, c5, Nat.reduceAdd, Nat.reduceSub, Nat.reduceMul, Nat.reduceBEq, Int.reduceToNat, Int.reduceNeg, Int.reduceLE, Int.reduceLT, Int.reduceBEq, Int.reduceBNe, Int.reduceEq, Bool.not_true, Bool.not_false, eq_self, reduceCtorEq]
  refine ⟨fun hv => ?_, fun hv => ?_⟩
  · refine callW_eq _ _ (f11) ?_
    simp (config := {implicitDefEqProofs := false, maxSteps := 4000000}) (disch := omega) only [push_cast, c5, Nat.reduceAdd, Nat.reduceSub, Nat.reduceMul, Nat.reduceBEq, Int.reduceToNat, Int.reduceNeg, Int.reduceLE, Int.reduceLT, Int.reduceBEq, Int.reduceBNe, Int.reduceEq, Bool.not_true, Bool.not_false, eq_self, reduceCtorEq]
  refine callW_eq _ _ (f15 N O false false hv) ?_
  simp (config := {implicitDefEqProofs := false, maxSteps := 4000000}) (disch := omega) only [push_cast, c5, Nat.reduceAdd, Nat.reduceSub, Nat.reduceMul, Nat.reduceBEq, Int.reduceToNat, Int.reduceNeg, Int.reduceLE, Int.reduceLT, Int.reduceBEq, Int.reduceBNe, Int.reduceEq, Bool.not_true, Bool.not_false, eq_self, reduceCtorEq]
  refine ⟨fun hf => ?_, fun hf => ?_⟩
  · refine callW_eq _ _ (f11) ?_
    simp (config := {implicitDefEqProofs := false, maxSteps := 4000000}) (disch := omega) only [push_cast, c5, Nat.reduceAdd, Nat.reduceSub, Nat.reduceMul, Nat.reduceBEq, Int.reduceToNat, Int.reduceNeg, Int.reduceLE, Int.reduceLT, Int.reduceBEq, Int.reduceBNe, Int.reduceEq, Bool.not_true, Bool.not_false, eq_self, reduceCtorEq]
  have hV := vmB_iff.1 hv
  have hAll := fit_all hf
  have e0 : ((m : Int).tmod 2) = ((m % 2 : Nat) : Int) := Int.ofNat_tmod m 2
  have hn1 : m % 2 ≤ 1 := by omega
  have e1 : IntKind.i64.wrap (((m % 2 : Nat) : Int) + 1) = ((m % 2 + 1 : Nat) : Int) := wrap_nat (by omega) (by omega)
  rw [e0, e1]
  generalize m % 2 = n at *
  refine callW_eq _ _ (f19 N O false false _ hV (n + 1) (by omega)) ?_
  simp (config := {implicitDefEqProofs := false, maxSteps := 4000000}) (disch := omega) only [push_cast, c5, e0, e1, Nat.reduceAdd, Nat.reduceSub, Nat.reduceMul, Nat.reduceBEq, Int.reduceToNat, Int.reduceNeg, Int.reduceLE, Int.reduceLT, Int.reduceBEq, Int.reduceBNe, Int.reduceEq, Bool.not_true, Bool.not_false, eq_self, reduceCtorEq]
  refine ⟨fun hbig => ?_, fun hsm => ?_⟩
  · refine callW_eq _ _ (f11) ?_
    simp (config := {implicitDefEqProofs := false, maxSteps := 4000000}) (disch := omega) only [push_cast, c5, Nat.reduceAdd, Nat.reduceSub, Nat.reduceMul, Nat.reduceBEq, Int.reduceToNat, Int.reduceNeg, Int.reduceLE, Int.reduceLT, Int.reduceBEq, Int.reduceBNe, Int.reduceEq, Bool.not_true, Bool.not_false, eq_self, reduceCtorEq]
  have hlen := suf_len (N := N) (O := O) (k := (N.getD 0 []).length) (e := n + 1)
  have hlen0 := suf_len (N := N) (O := O) (k := (N.getD 0 []).length) (e := n)
  have hsm' : geo (N.getD 0 []).length (n + 1 + 1) * N.length * (telL N O (N.getD 0 []).length).length ≤ 20000 := by exact_mod_cast hsm
  have hmon : geo (N.getD 0 []).length (n + 1) * N.length * (telL N O (N.getD 0 []).length).length ≤ geo (N.getD 0 []).length (n + 1 + 1) * N.length * (telL N O (N.getD 0 []).length).length :=
    Nat.mul_le_mul_right _ (Nat.mul_le_mul_right _ (by have : geo (N.getD 0 []).length (n + 1 + 1) = geo (N.getD 0 []).length (n + 1) + (N.getD 0 []).length ^ (n + 1 + 1) := rfl; omega))
  refine callW_rel (f20 N O false false n hb.1.1 hb.1.2 hb.2.1 hb.2.2) ?_
  rintro R O' ⟨l, e, nz, h9, rfl, rfl⟩
  simp (config := {implicitDefEqProofs := false, maxSteps := 4000000}) (disch := omega) only [push_cast, c5, Nat.reduceAdd, Nat.reduceSub, Nat.reduceMul, Nat.reduceBEq, Int.reduceToNat, Int.reduceNeg, Int.reduceLE, Int.reduceLT, Int.reduceBEq, Int.reduceBNe, Int.reduceEq, Bool.not_true, Bool.not_false, eq_self, reduceCtorEq]
  rcases sui_ok h9 hv hf (by omega) with ⟨h8, _⟩ | ⟨_, rfl, rfl⟩
  · rw [Int.toNat_natCast] at h8; omega
  rw [show ((n : Int) + 1) = ((n + 1 : Nat) : Int) by omega]
  refine callW_rel (f20 N O false false ((n + 1 : Nat) : Int) hb.1.1 hb.1.2 hb.2.1 hb.2.2) ?_
  rintro R O' ⟨l, e, nz2, h10, rfl, rfl⟩
  simp (config := {implicitDefEqProofs := false, maxSteps := 4000000}) (disch := omega) only [push_cast, c5, Nat.reduceAdd, Nat.reduceSub, Nat.reduceMul, Nat.reduceBEq, Int.reduceToNat, Int.reduceNeg, Int.reduceLE, Int.reduceLT, Int.reduceBEq, Int.reduceBNe, Int.reduceEq, Bool.not_true, Bool.not_false, eq_self, reduceCtorEq]
  rcases sui_ok h10 hv hf (by omega) with ⟨h8, _⟩ | ⟨_, rfl, rfl⟩
  · rw [Int.toNat_natCast] at h8; omega
  refine callW_rel (f13 N O false false hb.1.1 hb.1.2 hb.2.1 hb.2.2) ?_
  rintro R O' ⟨l, e, nz3, h11, rfl, rfl⟩
  simp (config := {implicitDefEqProofs := false, maxSteps := 4000000}) (disch := omega) only [push_cast, c5, Nat.reduceAdd, Nat.reduceSub, Nat.reduceMul, Nat.reduceBEq, Int.reduceToNat, Int.reduceNeg, Int.reduceLE, Int.reduceLT, Int.reduceBEq, Int.reduceBNe, Int.reduceEq, Bool.not_true, Bool.not_false, eq_self, reduceCtorEq]
  obtain ⟨rfl, rfl⟩ := fit_tel h11 hv hf
  rw [show ((n : Int) + 1).toNat = n + 1 by omega]
  refine ⟨fun h => absurd rfl h, fun _ => ?_⟩
  have hEl := telL_len hV
  have hEw : ∀ r ∈ telL N O (N.getD 0 []).length, r.length ≤ 3600 := fun r hr => (telL_mem hV hr).2
  have hAw : ∀ r ∈ onceL (sufL N O (N.getD 0 []).length n), r.length ≤ 3663 ∧ (∃ t ∈ telL N O (N.getD 0 []).length, t <:+ r) ∧ r ∈ onceL (sufL N O (N.getD 0 []).length (n + 1)) := fun r hr => by
    have h1 := mem_onceL.1 hr
    exact ⟨by have := (suf_mem hV hAll h1).2; omega, suf_end h1, mem_onceL.2 (suf_sub h1)⟩
  have hBw : ∀ r ∈ onceL (sufL N O (N.getD 0 []).length (n + 1)), r.length ≤ 3663 := fun r hr => by
    have h1 := mem_onceL.1 hr
    have := (suf_mem hV hAll h1).2; omega
  have hAS := onceL_ss (sufL N O (N.getD 0 []).length n)
  have hBS := onceL_ss (sufL N O (N.getD 0 []).length (n + 1))
  have hAl : (onceL (sufL N O (N.getD 0 []).length n)).length ≤ 20000 := Nat.le_trans hlen0 (by omega)
  have hBl : (onceL (sufL N O (N.getD 0 []).length (n + 1))).length ≤ 20000 := Nat.le_trans hlen (by omega)
  generalize onceL (sufL N O (N.getD 0 []).length n) = A at *
  generalize onceL (sufL N O (N.getD 0 []).length (n + 1)) = B at *
  generalize telL N O (N.getD 0 []).length = E at *
  refine awp_loop (tyP_ok _) c5 2000 [2, 4, 6, 8, 10, 12, 13] (fun k g st => ∃ i p : Nat, g = (false, 0) ∧ i ≤ A.length ∧ p ≤ B.length ∧ (∀ q, i < A.length → q < B.length → B.getD q [] = A.getD i [] → p ≤ q) ∧ k = A.length - i ∧ st = ⟨114, [(2, .fref [.pay (.rows N) false, .pay (.rows O) false]), (4, .bool false), (6, .pay (.rows A) nz), (8, .pay (.rows B) nz2), (10, .pay (.rows E) nz3), (12, .int .i64 p), (13, .int .i64 i)], []⟩) A.length (by kernel_rfl) ?_ ?_
  · simp (config := {implicitDefEqProofs := false, maxSteps := 4000000}) (disch := omega) only [push_cast, c5, Nat.reduceAdd, Nat.reduceSub, Nat.reduceMul, Nat.reduceBEq, Int.reduceToNat, Int.reduceNeg, Int.reduceLE, Int.reduceLT, Int.reduceBEq, Int.reduceBNe, Int.reduceEq, Bool.not_true, Bool.not_false, eq_self, reduceCtorEq]
    exact ⟨0, 0, by omega, by omega, fun _ _ _ _ => Nat.zero_le _, by omega, rfl, rfl⟩
  rintro k g st ⟨i, p, rfl, hi, hp, hpq, rfl, rfl⟩
  simp (config := {implicitDefEqProofs := false, maxSteps := 4000000}) (disch := omega) only [push_cast, c5, Nat.reduceAdd, Nat.reduceSub, Nat.reduceMul, Nat.reduceBEq, Int.reduceToNat, Int.reduceNeg, Int.reduceLE, Int.reduceLT, Int.reduceBEq, Int.reduceBNe, Int.reduceEq, Bool.not_true, Bool.not_false, eq_self, reduceCtorEq]
  refine ⟨fun hlt => ?_, fun hge => ?_⟩
  · obtain ⟨ha1, ha2, ha3⟩ := hAw (A.getD i []) (by rw [List.getD_eq_getElem?_getD, List.getElem?_eq_getElem hlt]; exact List.getElem_mem _)
    obtain ⟨q, hq, hqe⟩ := mem_at ha3
    have hpq0 := hpq q hlt hq hqe
    refine awp_loop (tyP_ok _) c5 2000 [2, 4, 6, 8, 10, 12, 13] (fun k g st => ∃ p : Nat, g = (false, 0) ∧ p ≤ q ∧ k = q - p ∧ st = ⟨114, [(2, .fref [.pay (.rows N) false, .pay (.rows O) false]), (4, .bool false), (6, .pay (.rows A) nz), (8, .pay (.rows B) nz2), (10, .pay (.rows E) nz3), (12, .int .i64 p), (13, .int .i64 i)], []⟩) (q - p) (by kernel_rfl) ?_ ?_
    · simp (config := {implicitDefEqProofs := false, maxSteps := 4000000}) (disch := omega) only [push_cast, c5, Nat.reduceAdd, Nat.reduceSub, Nat.reduceMul, Nat.reduceBEq, Int.reduceToNat, Int.reduceNeg, Int.reduceLE, Int.reduceLT, Int.reduceBEq, Int.reduceBNe, Int.reduceEq, Bool.not_true, Bool.not_false, eq_self, reduceCtorEq]
      exact ⟨p, hpq0, rfl, rfl⟩
    rintro k g st ⟨p, rfl, hpq1, rfl, rfl⟩
    have hpw := hBw (B.getD p []) (by rw [List.getD_eq_getElem?_getD, List.getElem?_eq_getElem (by omega)]; exact List.getElem_mem _)
    simp (config := {implicitDefEqProofs := false, maxSteps := 4000000}) (disch := omega) only [push_cast, c5, Nat.reduceAdd, Nat.reduceSub, Nat.reduceMul, Nat.reduceBEq, Int.reduceToNat, Int.reduceNeg, Int.reduceLE, Int.reduceLT, Int.reduceBEq, Int.reduceBNe, Int.reduceEq, Bool.not_true, Bool.not_false, eq_self, reduceCtorEq]
    refine ⟨fun hpl => ⟨hpl, hlt, ?_⟩, fun hpl => by omega⟩
    refine callW_rel (f22 (B.getD p []) (A.getD i []) false false (by omega)) ?_
    rintro R O' ⟨rfl, rfl⟩
    simp (config := {implicitDefEqProofs := false, maxSteps := 4000000}) (disch := omega) only [push_cast, c5, Nat.reduceAdd, Nat.reduceSub, Nat.reduceMul, Nat.reduceBEq, Int.reduceToNat, Int.reduceNeg, Int.reduceLE, Int.reduceLT, Int.reduceBEq, Int.reduceBNe, Int.reduceEq, Bool.not_true, Bool.not_false, eq_self, reduceCtorEq]
    refine ⟨fun hbt => ?_, fun hbf => ?_⟩
    · have hpne : p ≠ q := fun e => by rw [e, hqe, befB_irrefl] at hbt; cases hbt
      exact ⟨q - (p + 1), by omega, p + 1, by omega, rfl, by omega⟩
    · have hpe : p = q := Classical.byContradiction fun hne => by
        have := hBS.idx (show p < q by omega) hq
        rw [hqe, hbf] at this; cases this
      subst hpe
      refine ⟨fun h => by omega, fun _ => ⟨hpl, hlt, ?_⟩⟩
      refine callW_rel (f23 (B.getD p []) (A.getD i []) false false (by omega)) ?_
      rintro R O' ⟨rfl, rfl⟩
      simp (config := {implicitDefEqProofs := false, maxSteps := 4000000}) (disch := omega) only [push_cast, c5, Nat.reduceAdd, Nat.reduceSub, Nat.reduceMul, Nat.reduceBEq, Int.reduceToNat, Int.reduceNeg, Int.reduceLE, Int.reduceLT, Int.reduceBEq, Int.reduceBNe, Int.reduceEq, Bool.not_true, Bool.not_false, eq_self, reduceCtorEq]
      refine ⟨fun hne => absurd hqe hne, fun _ => ⟨hlt, ?_⟩⟩
      refine callW_rel (f24 (A.getD i []) E false nz3 (by omega) (by omega) (fun r hr => by have := hEw r hr; omega)) ?_
      rintro R O' ⟨b1, rfl, hb1, rfl⟩
      obtain rfl := hb1 ha2
      simp (config := {implicitDefEqProofs := false, maxSteps := 4000000}) (disch := omega) only [push_cast, c5, Nat.reduceAdd, Nat.reduceSub, Nat.reduceMul, Nat.reduceBEq, Int.reduceToNat, Int.reduceNeg, Int.reduceLE, Int.reduceLT, Int.reduceBEq, Int.reduceBNe, Int.reduceEq, Bool.not_true, Bool.not_false, eq_self, reduceCtorEq]
      refine ⟨A.length - (i + 1), by omega, i + 1, p, by omega, by omega, fun q' hi' hq' he' => Classical.byContradiction fun hlt' => ?_, rfl, rfl, by omega⟩
      have h1 := hBS.idx (show q' < p by omega) hq
      rw [he', hqe] at h1
      have h2 := hAS.idx (show i < i + 1 by omega) hi'
      have h3 := befB_asymm h2
      rw [h1] at h3; cases h3
  · refine callW_eq _ _ (f11) ?_
    simp (config := {implicitDefEqProofs := false, maxSteps := 4000000}) (disch := omega) only [push_cast, c5, Nat.reduceAdd, Nat.reduceSub, Nat.reduceMul, Nat.reduceBEq, Int.reduceToNat, Int.reduceNeg, Int.reduceLE, Int.reduceLT, Int.reduceBEq, Int.reduceBNe, Int.reduceEq, Bool.not_true, Bool.not_false, eq_self, reduceCtorEq]
theorem lawCheckMore (N O : List (List Int)) (x : Int) (wx : (Lit.int .u8 x).wf = true) (hl : N.length ≤ 4611686018427387904) (_ : ∀ r ∈ N, r.length ≤ 4611686018427387904) (ho : O.length ≤ 4611686018427387904) (_ : ∀ r ∈ O, r.length ≤ 4611686018427387904) :
    ACall Try.prog 5 [.agg [.pay (.rows (N)) (false), .pay (.rows (O)) (false)], .int .u8 x] (fun r objs => r = .bool true ∧ objs = []) := by
  have hx : 0 ≤ x ∧ x < 256 := by
    simp only [Lit.wf, Bool.and_eq_true, decide_eq_true_eq] at wx
    have h1 : IntKind.u8.min = 0 := by decide
    have h2 : IntKind.u8.max = 255 := by decide
    omega
  exact f5 N O x hx hl ho
end Go.AM
end

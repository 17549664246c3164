/-
  Contracts of tells, shorter and MealyShort; conditions in each statement.
-/
import Derived.Test.YthgglfpklgjibaaDoorS12
import Derived.Test.YthgglfpklgjibaaDoorP3
set_option linter.unusedVariables false
set_option linter.unusedSimpArgs false
set_option linter.unusedSectionVars false

/-! text Ud20 -/
section
namespace Go.AM
open Go Go.Proofs
/- mizmaze/mizmazelaw07.tells -/
def c31 : VCfg := ⟨⟨[], [], [], [0, 1, 2, 3, 4, 5, 7, 10, 11, 13, 14, 16, 17]⟩, [(4, (.op 0 .loose (.op 1 .loose (.op 2 .loose (.op 3 .loose (.op 4 .loose (.op 5 .loose (.op 6 .loose (.op 7 .loose (.op 8 .loose (.op 9 .loose (.op 10 .loose (.op 11 .loose (.op 12 .loose (.op 13 .loose (.op 14 .loose (.op 15 .loose (.op 16 .loose (.op 17 .loose (.op 18 .loose (.op 19 .loose (.op 20 .loose (.op 21 .loose (.op 22 .loose (.op 23 .loose (.op 24 .loose (.op 25 .loose (.op 26 .loose (.op 27 .loose (.op 28 .loose (.op 29 .loose (.op 30 .loose (.op 31 .eff (.op 32 .loose (.op 33 .loose (.op 34 .loose (.op 35 .loose (.op 36 .loose (.op 37 .loose (.op 38 .loose (.op 39 .loose (.op 40 .loose (.op 41 .loose (.op 42 .loose (.op 43 .loose (.op 44 .loose .nil))))))))))))))))))))))))))))))))))))))))))))))], [], []⟩
set_option maxHeartbeats 8000000 in
set_option maxRecDepth 100000 in
theorem f31 (N O M Q : List (List Int)) (z z' u u' a : Bool) (x y : Int) (w : List Int) (hb : nbB N O) (hc : nbB M Q) (hl : w.length ≤ 4611686018427387904)
    (hv : vmB N O = true) (hv2 : vmB M Q = true) (hx : (0 ≤ x ∧ x < N.length) ∧ wordB (N.getD 0 []).length w = true) (hy : (0 ≤ y ∧ y < M.length) ∧ wordB (M.getD 0 []).length w = true)
    (h0 : 0 < w.length) (hp : (outsG N O x w).take (w.length - 1) = (outsG M Q y w).take (w.length - 1)) (hd : (outsG N O x w).getD (w.length - 1) 0 ≠ (outsG M Q y w).getD (w.length - 1) 0) :
    ACall Tryd.prog 31 [.agg [.pay (.rows (N)) (z), .pay (.rows (O)) (z')], .int .i64 x, .agg [.pay (.rows (M)) (u), .pay (.rows (Q)) (u')], .int .i64 y, .pay (.ints .i64 w) a] (fun r objs => r = .bool true ∧ objs = []) := by
  have l1 := outsG_len N O w x
  have l2 := outsG_len M Q w y
  refine acall_intro (tyP_ok _) c31 2000 [.tmp 10] Tryd.func31 rfl (by rfl) rfl (by kernel_rfl) ?_
  unfold Tryd.f31
  simp (config := {implicitDefEqProofs := false, maxSteps := 4000000}) (disch := omega) only [push_cast, c31, Nat.reduceAdd, Nat.reduceSub, Nat.reduceMul, Nat.reduceBEq, Int.reduceToNat, Int.reduceNeg, Int.reduceLE, Int.reduceLT, Int.reduceBEq, Int.reduceBNe, Int.reduceEq, Bool.not_true, Bool.not_false, eq_self, reduceCtorEq]
  refine callW_eq _ _ (rn_ok z z' a x w hb hl hv hx) ?_
  simp (config := {implicitDefEqProofs := false, maxSteps := 4000000}) (disch := omega) only [push_cast, c31, Nat.reduceAdd, Nat.reduceSub, Nat.reduceMul, Nat.reduceBEq, Int.reduceToNat, Int.reduceNeg, Int.reduceLE, Int.reduceLT, Int.reduceBEq, Int.reduceBNe, Int.reduceEq, Bool.not_true, Bool.not_false, eq_self, reduceCtorEq]
  refine callW_eq _ _ (rn_ok u u' a y w hc hl hv2 hy) ?_
  simp (config := {implicitDefEqProofs := false, maxSteps := 4000000}) (disch := omega) only [push_cast, c31, Nat.reduceAdd, Nat.reduceSub, Nat.reduceMul, Nat.reduceBEq, Int.reduceToNat, Int.reduceNeg, Int.reduceLE, Int.reduceLT, Int.reduceBEq, Int.reduceBNe, Int.reduceEq, Bool.not_true, Bool.not_false, eq_self, reduceCtorEq]
  refine ⟨fun _ => ⟨fun _ => ⟨fun _ => ⟨by omega, by omega, ?_⟩, fun h => h l2⟩, fun h => h l1⟩, fun h => by omega⟩
  rw [show ((w.length : Int) - 1).toNat - 0 = w.length - 1 by omega, hp]
  refine callW_eq _ _ (f17 _ _ _ _ (by rw [List.length_take]; omega)) ?_
  simp (config := {implicitDefEqProofs := false, maxSteps := 4000000}) (disch := omega) only [push_cast, c31, Nat.reduceAdd, Nat.reduceSub, Nat.reduceMul, Nat.reduceBEq, Int.reduceToNat, Int.reduceNeg, Int.reduceLE, Int.reduceLT, Int.reduceBEq, Int.reduceBNe, Int.reduceEq, Bool.not_true, Bool.not_false, eq_self, reduceCtorEq]
  rw [show ((w.length : Int) - 1).toNat = w.length - 1 by omega]
  exact ⟨⟨by omega, by omega⟩, ⟨by omega, by omega⟩, hd⟩
theorem rn_any {N O : List (List Int)} (z z' y : Bool) (s : Int) (w : List Int) (hb : nbB N O) (hw : w.length ≤ 4611686018427387904) :
    ACall Tryd.prog 29 [.agg [.pay (.rows (N)) (z), .pay (.rows (O)) (z')], .int .i64 s, .pay (.ints .i64 w) y] (fun r objs => ∃ out t e, (e = 0 → out = outsG N O s w ∧ wordB (N.getD 0 []).length w = true) ∧ r = .tup [.pay (.ints .i64 out) true, .int .i64 t, .int .i64 e] ∧ objs = []) := by
  refine (f29 N O z z' y s w hb.1.1 hb.1.2 hb.2.1 hb.2.2 hw).mono ?_
  rintro r objs ⟨out, t, e, h, rfl, rfl⟩
  exact ⟨out, t, e, fun he => ⟨(h.e0 he).2.2.2, (h.e0 he).2.1.2⟩, rfl, rfl⟩
theorem shorter_eq {N O M Q : List (List Int)} {x y : Int} {w v : List Int} {k : Nat} (hN : VM N O k) (hf : ∀ v : List Int, (∀ c ∈ v, 0 ≤ c ∧ c < k) → outsG N O x v ≠ outsG M Q y v → leB w v) (hb : ¬ leB w v) (hw : wordB (N.getD 0 []).length v = true) : outsG N O x v = outsG M Q y v := by
  rw [hN.k0] at hw
  refine Classical.byContradiction fun h => hb (hf v (wordB_iff.1 hw).2 h)
/- mizmaze/mizmazelaw07.shorter -/
def c32 : VCfg := ⟨⟨[], [], [], [0, 1, 2, 3, 4, 5, 6, 8, 12, 13, 15, 16, 18, 36]⟩, [], [], []⟩
set_option maxHeartbeats 8000000 in
set_option maxRecDepth 100000 in
theorem f32 (N O M Q : List (List Int)) (z z' u u' a b : Bool) (x y : Int) (w v : List Int) (k : Nat) (hb : nbB N O) (hc : nbB M Q) (hl : w.length ≤ 4611686018427387904) (hl2 : v.length ≤ 4611686018427387904)
    (hN : VM N O k) (hM : VM M Q k) (hx : 0 ≤ x ∧ x < N.length) (hy : 0 ≤ y ∧ y < M.length)
    (hf : ∀ v : List Int, (∀ c ∈ v, 0 ≤ c ∧ c < k) → outsG N O x v ≠ outsG M Q y v → leB w v) :
    ACall Tryd.prog 32 [.agg [.pay (.rows (N)) (z), .pay (.rows (O)) (z')], .int .i64 x, .agg [.pay (.rows (M)) (u), .pay (.rows (Q)) (u')], .int .i64 y, .pay (.ints .i64 w) a, .pay (.ints .i64 v) b] (fun r objs => r = .bool false ∧ objs = []) := by
  refine acall_intro (tyP_ok _) c32 2000 [.tmp 12] Tryd.func32 rfl (by rfl) rfl (by kernel_rfl) ?_
  unfold Tryd.f32
  simp (config := {implicitDefEqProofs := false, maxSteps := 4000000}) (disch := omega) only [push_cast, c32, Nat.reduceAdd, Nat.reduceSub, Nat.reduceMul, Nat.reduceBEq, Int.reduceToNat, Int.reduceNeg, Int.reduceLE, Int.reduceLT, Int.reduceBEq, Int.reduceBNe, Int.reduceEq, Bool.not_true, Bool.not_false, eq_self, reduceCtorEq]
  intro h1
  refine ⟨fun h2 => ?_, fun h2 => ?_⟩
  · refine callW_eq _ _ (f54 v w _ _ hl2) ?_
    simp (config := {implicitDefEqProofs := false, maxSteps := 4000000}) (disch := omega) only [push_cast, c32, Nat.reduceAdd, Nat.reduceSub, Nat.reduceMul, Nat.reduceBEq, Int.reduceToNat, Int.reduceNeg, Int.reduceLE, Int.reduceLT, Int.reduceBEq, Int.reduceBNe, Int.reduceEq, Bool.not_true, Bool.not_false, eq_self, reduceCtorEq]
    intro h3
    have hn : ¬ leB w v := not_leB_of (by omega) (fun _ => h3)
    refine callW_rel (rn_any z z' b x v hb hl2) ?_
    rintro R O' ⟨o, t, e, he, rfl, rfl⟩
    simp (config := {implicitDefEqProofs := false, maxSteps := 4000000}) (disch := omega) only [push_cast, c32, Nat.reduceAdd, Nat.reduceSub, Nat.reduceMul, Nat.reduceBEq, Int.reduceToNat, Int.reduceNeg, Int.reduceLE, Int.reduceLT, Int.reduceBEq, Int.reduceBNe, Int.reduceEq, Bool.not_true, Bool.not_false, eq_self, reduceCtorEq]
    refine callW_rel (rn_any u u' b y v hc hl2) ?_
    rintro R O' ⟨o2, t2, e2, he2, rfl, rfl⟩
    simp (config := {implicitDefEqProofs := false, maxSteps := 4000000}) (disch := omega) only [push_cast, c32, Nat.reduceAdd, Nat.reduceSub, Nat.reduceMul, Nat.reduceBEq, Int.reduceToNat, Int.reduceNeg, Int.reduceLE, Int.reduceLT, Int.reduceBEq, Int.reduceBNe, Int.reduceEq, Bool.not_true, Bool.not_false, eq_self, reduceCtorEq]
    intro h4 h5
    obtain ⟨rfl, h6⟩ := he h4
    obtain ⟨rfl, _⟩ := he2 h5
    refine callW_eq _ _ (f17 _ _ _ _ (by rw [outsG_len]; omega)) ?_
    simp (config := {implicitDefEqProofs := false, maxSteps := 4000000}) (disch := omega) only [push_cast, c32, Nat.reduceAdd, Nat.reduceSub, Nat.reduceMul, Nat.reduceBEq, Int.reduceToNat, Int.reduceNeg, Int.reduceLE, Int.reduceLT, Int.reduceBEq, Int.reduceBNe, Int.reduceEq, Bool.not_true, Bool.not_false, eq_self, reduceCtorEq]
    exact shorter_eq hN hf hn h6
  · have hn : ¬ leB w v := not_leB_of (by omega) (fun h => absurd h h2)
    refine callW_rel (rn_any z z' b x v hb hl2) ?_
    rintro R O' ⟨o, t, e, he, rfl, rfl⟩
    simp (config := {implicitDefEqProofs := false, maxSteps := 4000000}) (disch := omega) only [push_cast, c32, Nat.reduceAdd, Nat.reduceSub, Nat.reduceMul, Nat.reduceBEq, Int.reduceToNat, Int.reduceNeg, Int.reduceLE, Int.reduceLT, Int.reduceBEq, Int.reduceBNe, Int.reduceEq, Bool.not_true, Bool.not_false, eq_self, reduceCtorEq]
    refine callW_rel (rn_any u u' b y v hc hl2) ?_
    rintro R O' ⟨o2, t2, e2, he2, rfl, rfl⟩
    simp (config := {implicitDefEqProofs := false, maxSteps := 4000000}) (disch := omega) only [push_cast, c32, Nat.reduceAdd, Nat.reduceSub, Nat.reduceMul, Nat.reduceBEq, Int.reduceToNat, Int.reduceNeg, Int.reduceLE, Int.reduceLT, Int.reduceBEq, Int.reduceBNe, Int.reduceEq, Bool.not_true, Bool.not_false, eq_self, reduceCtorEq]
    intro h4 h5
    obtain ⟨rfl, h6⟩ := he h4
    obtain ⟨rfl, _⟩ := he2 h5
    refine callW_eq _ _ (f17 _ _ _ _ (by rw [outsG_len]; omega)) ?_
    simp (config := {implicitDefEqProofs := false, maxSteps := 4000000}) (disch := omega) only [push_cast, c32, Nat.reduceAdd, Nat.reduceSub, Nat.reduceMul, Nat.reduceBEq, Int.reduceToNat, Int.reduceNeg, Int.reduceLE, Int.reduceLT, Int.reduceBEq, Int.reduceBNe, Int.reduceEq, Bool.not_true, Bool.not_false, eq_self, reduceCtorEq]
    exact shorter_eq hN hf hn h6
end Go.AM
end

/-! text Ud21 -/
section
namespace Go.AM
open Go Go.Proofs
theorem ap_any {N O : List (List Int)} (z z' : Bool) (x y : Int) (hb : nbB N O) :
    ACall Tryd.prog 13 [.agg [.pay (.rows (N)) (z), .pay (.rows (O)) (z')], .int .i64 x, .int .i64 y] (fun r objs => ∃ w nz e, (e = 0 → vmB N O = true ∧ ((0 ≤ x ∧ x < N.length) ∧ 0 ≤ y ∧ y < N.length) ∧ TellR N O N O x y (N.getD 0 []).length w true) ∧ r = .tup [.pay (.ints .i64 w) nz, .int .i64 e] ∧ objs = []) := by
  refine (f13 N O z z' x y hb.1.1 hb.1.2 hb.2.1 hb.2.2).mono ?_
  rintro r objs ⟨w, e, nz, ⟨h, rfl, rfl⟩ | ⟨_, h, rfl, _⟩ | ⟨h1, h2, ⟨h, rfl⟩ | ⟨h, rfl, _⟩⟩, rfl, rfl⟩
  · exact ⟨_, nz, _, fun h => absurd h (by decide), rfl, rfl⟩
  · exact ⟨_, nz, _, fun h => absurd h (by decide), rfl, rfl⟩
  · exact ⟨_, nz, _, fun _ => ⟨h1, h2, h⟩, rfl, rfl⟩
  · exact ⟨_, nz, _, fun h => absurd h (by decide), rfl, rfl⟩
theorem eq_any {N O M Q : List (List Int)} (z z' u u' : Bool) (x y : Int) (hb : nbB N O) (hc : nbB M Q) :
    ACall Tryd.prog 23 [.agg [.pay (.rows (N)) (z), .pay (.rows (O)) (z')], .int .i64 x, .agg [.pay (.rows (M)) (u), .pay (.rows (Q)) (u')], .int .i64 y] (fun r objs => ∃ is w nz e, (e = 0 → (vmB N O = true ∧ vmB M Q = true) ∧ ((0 ≤ x ∧ x < N.length) ∧ (0 ≤ y ∧ y < M.length) ∧ (N.getD 0 []).length = (M.getD 0 []).length) ∧ TellR N O M Q x y (N.getD 0 []).length w (!is)) ∧ r = .tup [.bool is, .pay (.ints .i64 w) nz, .int .i64 e] ∧ objs = []) := by
  refine (f23 N O M Q z z' u u' x y hb.1.1 hb.1.2 hb.2.1 hb.2.2 hc.1.1 hc.1.2 hc.2.1 hc.2.2).mono ?_
  rintro r objs ⟨is, w, e, nz, ⟨_, rfl, rfl, rfl⟩ | ⟨_, _, rfl, rfl, rfl⟩ | ⟨h1, h2, h, rfl⟩, rfl, rfl⟩
  · exact ⟨_, _, nz, _, fun h => absurd h (by decide), rfl, rfl⟩
  · exact ⟨_, _, nz, _, fun h => absurd h (by decide), rfl, rfl⟩
  · exact ⟨_, _, nz, _, fun _ => ⟨h1, h2, h⟩, rfl, rfl⟩
/-- the words of Apart and Equal: all that tells asks -/
theorem TellR.tell {N O M Q : List (List Int)} {x y : Int} {k : Nat} {w : List Int} (hN : VM N O k) (hM : VM M Q k) (hx : 0 ≤ x ∧ x < N.length) (hy : 0 ≤ y ∧ y < M.length) (h : TellR N O M Q x y k w true) :
    wordB k w = true ∧ 0 < w.length ∧ (outsG N O x w).take (w.length - 1) = (outsG M Q y w).take (w.length - 1) ∧ (outsG N O x w).getD (w.length - 1) 0 ≠ (outsG M Q y w).getD (w.length - 1) 0 := by
  obtain ⟨h1, h2, h3, h4⟩ := h.first hN hM hx hy
  have hl := h.sm hN hM hx hy
  obtain ⟨u, c, rfl⟩ : ∃ u c, w = u ++ [c] := ⟨w.dropLast, w.getLast h2, (List.dropLast_concat_getLast h2).symm⟩
  have hu : outsG N O x u = outsG M Q y u := Classical.byContradiction fun g => by
    have := leB_len (h4 u (fun c hc => h1 c (by simp [hc])) g)
    simp at this
    omega
  have e1 : (u ++ [c]).length - 1 = u.length := by simp
  have l1 := outsG_len N O u x
  have l2 := outsG_len M Q u y
  refine ⟨wordB_iff.2 ⟨by omega, h1⟩, by simp, ?_, ?_⟩
  · rw [e1, outsG_snoc, outsG_snoc, List.take_left' l1, List.take_left' l2]; exact hu
  · rw [e1]
    rw [outsG_snoc, outsG_snoc, hu] at h3
    rw [outsG_snoc, outsG_snoc, hu, ← l2, getD_append_last, getD_append_last]
    exact fun g => h3 (by rw [g])
/- mizmaze/mizmazelaw07.MealyShort -/
def c9 : VCfg := ⟨⟨[], [], [], [0, 1, 2, 3, 4, 5, 7, 10, 11, 12, 13, 14, 15, 16, 17, 28, 38, 71, 85]⟩, [], [], []⟩
set_option maxHeartbeats 8000000 in
set_option maxRecDepth 100000 in
theorem f9 (N O : List (List Int)) (x : Int) (M Q : List (List Int)) (y : Int) (v : List Int) (hl : N.length ≤ 4611686018427387904) (hl2 : O.length ≤ 4611686018427387904) (hm : M.length ≤ 4611686018427387904) (hm2 : Q.length ≤ 4611686018427387904) (hv : v.length ≤ 17592186044416) :
    ACall Tryd.prog 9 [.agg [.pay (.rows (N)) (false), .pay (.rows (O)) (false)], .int .i64 x, .agg [.pay (.rows (M)) (false), .pay (.rows (Q)) (false)], .int .i64 y, .pay (.ints .i64 v) false] (fun r objs => r = .bool true ∧ objs = []) := by
  refine acall_intro (tyP_ok _) c9 2000 [.tmp 10] Tryd.func9 rfl (by rfl) rfl (by kernel_rfl) ?_
  unfold Tryd.f9
  simp (config := {implicitDefEqProofs := false, maxSteps := 4000000}) (disch := omega) only [push_cast, c9, Nat.reduceAdd, Nat.reduceSub, Nat.reduceMul, Nat.reduceBEq, Int.reduceToNat, Int.reduceNeg, Int.reduceLE, Int.reduceLT, Int.reduceBEq, Int.reduceBNe, Int.reduceEq, Bool.not_true, Bool.not_false, eq_self, reduceCtorEq]
  refine callW_rel (f11 N O false false hl hl2) ?_
  rintro R O' ⟨b, rfl, hb, rfl⟩
  simp (config := {implicitDefEqProofs := false, maxSteps := 4000000}) (disch := omega) only [push_cast, c9, Nat.reduceAdd, Nat.reduceSub, Nat.reduceMul, Nat.reduceBEq, Int.reduceToNat, Int.reduceNeg, Int.reduceLE, Int.reduceLT, Int.reduceBEq, Int.reduceBNe, Int.reduceEq, Bool.not_true, Bool.not_false, eq_self, reduceCtorEq]
  refine ⟨fun h => ?_, fun h => ?_⟩
  · refine callW_eq _ _ (f12) ?_
    simp (config := {implicitDefEqProofs := false, maxSteps := 4000000}) (disch := omega) only [push_cast, c9, Nat.reduceAdd, Nat.reduceSub, Nat.reduceMul, Nat.reduceBEq, Int.reduceToNat, Int.reduceNeg, Int.reduceLE, Int.reduceLT, Int.reduceBEq, Int.reduceBNe, Int.reduceEq, Bool.not_true, Bool.not_false, eq_self, reduceCtorEq]
  have hN1 := (hb h).1.1
  have hb := nb (hb h)
  refine callW_rel (f11 M Q false false hm hm2) ?_
  rintro R O' ⟨b2, rfl, hc, rfl⟩
  simp (config := {implicitDefEqProofs := false, maxSteps := 4000000}) (disch := omega) only [push_cast, c9, Nat.reduceAdd, Nat.reduceSub, Nat.reduceMul, Nat.reduceBEq, Int.reduceToNat, Int.reduceNeg, Int.reduceLE, Int.reduceLT, Int.reduceBEq, Int.reduceBNe, Int.reduceEq, Bool.not_true, Bool.not_false, eq_self, reduceCtorEq]
  refine ⟨fun h => ?_, fun h => ?_⟩
  · refine callW_eq _ _ (f12) ?_
    simp (config := {implicitDefEqProofs := false, maxSteps := 4000000}) (disch := omega) only [push_cast, c9, Nat.reduceAdd, Nat.reduceSub, Nat.reduceMul, Nat.reduceBEq, Int.reduceToNat, Int.reduceNeg, Int.reduceLE, Int.reduceLT, Int.reduceBEq, Int.reduceBNe, Int.reduceEq, Bool.not_true, Bool.not_false, eq_self, reduceCtorEq]
  have hM1 := (hc h).1.1
  have hc := nb (hc h)
  refine ⟨fun h => ?_, fun hw => ?_⟩
  · refine callW_eq _ _ (f12) ?_
    simp (config := {implicitDefEqProofs := false, maxSteps := 4000000}) (disch := omega) only [push_cast, c9, Nat.reduceAdd, Nat.reduceSub, Nat.reduceMul, Nat.reduceBEq, Int.reduceToNat, Int.reduceNeg, Int.reduceLE, Int.reduceLT, Int.reduceBEq, Int.reduceBNe, Int.reduceEq, Bool.not_true, Bool.not_false, eq_self, reduceCtorEq]
  refine callW_rel (ap_any false false x y hb) ?_
  rintro R O' ⟨w, nz, e, he, rfl, rfl⟩
  simp (config := {implicitDefEqProofs := false, maxSteps := 4000000}) (disch := omega) only [push_cast, c9, Nat.reduceAdd, Nat.reduceSub, Nat.reduceMul, Nat.reduceBEq, Int.reduceToNat, Int.reduceNeg, Int.reduceLE, Int.reduceLT, Int.reduceBEq, Int.reduceBNe, Int.reduceEq, Bool.not_true, Bool.not_false, eq_self, reduceCtorEq]
  refine ⟨fun h0 => ?_, fun _ => ?_⟩
  · obtain ⟨hv1, hx, hT⟩ := he h0
    have hV := vmB_iff.1 hv1
    have hwl := hT.sm hV hV hx.1 hx.2
    have hmo := hT.moore hV hx.1 hx.2
    have htl := hT.tell hV hV hx.1 hx.2
    have hf := (hT.first hV hV hx.1 hx.2).2.2.2
    have hcn : cntT N O (N.getD 0 []).length ≤ N.length := cntI_le _
    have hcl := clsT_len (N := N) (O := O) (k := (N.getD 0 []).length)
    have hn2 := hV.v.n2
    refine callW_eq _ _ (cl_ok false false hb hv1) ?_
    simp (config := {implicitDefEqProofs := false, maxSteps := 4000000}) (disch := omega) only [push_cast, c9, Nat.reduceAdd, Nat.reduceSub, Nat.reduceMul, Nat.reduceBEq, Int.reduceToNat, Int.reduceNeg, Int.reduceLE, Int.reduceLT, Int.reduceBEq, Int.reduceBNe, Int.reduceEq, Bool.not_true, Bool.not_false, eq_self, reduceCtorEq]
    refine callW_eq _ _ (f30 (clsT N O (N.getD 0 []).length) _ (cntT N O (N.getD 0 []).length) (by omega) (by omega) (fun i hi => cls_rng (by omega)) (fun _ => ⟨repC N O (N.getD 0 []).length (cntT N O (N.getD 0 []).length - 1), by have := (repC_ok (N := N) (O := O) (k := (N.getD 0 []).length) (c := cntT N O (N.getD 0 []).length - 1) (by omega)).1; omega, by have := (repC_ok (N := N) (O := O) (k := (N.getD 0 []).length) (c := cntT N O (N.getD 0 []).length - 1) (by omega)).2.2.2; unfold atC at this; omega⟩)) ?_
    simp (config := {implicitDefEqProofs := false, maxSteps := 4000000}) (disch := omega) only [push_cast, c9, Nat.reduceAdd, Nat.reduceSub, Nat.reduceMul, Nat.reduceBEq, Int.reduceToNat, Int.reduceNeg, Int.reduceLE, Int.reduceLT, Int.reduceBEq, Int.reduceBNe, Int.reduceEq, Bool.not_true, Bool.not_false, eq_self, reduceCtorEq]
    refine ⟨fun h => by omega, fun _ => ?_⟩
    refine callW_eq _ _ (f31 N O N O false false false false nz x y w hb hb (by omega) hv1 hv1 ⟨hx.1, htl.1⟩ ⟨hx.2, htl.1⟩ htl.2.1 htl.2.2.1 htl.2.2.2) ?_
    simp (config := {implicitDefEqProofs := false, maxSteps := 4000000}) (disch := omega) only [push_cast, c9, Nat.reduceAdd, Nat.reduceSub, Nat.reduceMul, Nat.reduceBEq, Int.reduceToNat, Int.reduceNeg, Int.reduceLE, Int.reduceLT, Int.reduceBEq, Int.reduceBNe, Int.reduceEq, Bool.not_true, Bool.not_false, eq_self, reduceCtorEq]
    refine callW_eq _ _ (f32 N O N O false false false false nz false x y w v _ hb hb (by omega) (by omega) hV hV hx.1 hx.2 hf) ?_
    simp (config := {implicitDefEqProofs := false, maxSteps := 4000000}) (disch := omega) only [push_cast, c9, Nat.reduceAdd, Nat.reduceSub, Nat.reduceMul, Nat.reduceBEq, Int.reduceToNat, Int.reduceNeg, Int.reduceLE, Int.reduceLT, Int.reduceBEq, Int.reduceBNe, Int.reduceEq, Bool.not_true, Bool.not_false, eq_self, reduceCtorEq]
    refine callW_rel (eq_any false false false false x y hb hc) ?_
    rintro R O' ⟨is, w2, nz2, e2, he2, rfl, rfl⟩
    simp (config := {implicitDefEqProofs := false, maxSteps := 4000000}) (disch := omega) only [push_cast, c9, Nat.reduceAdd, Nat.reduceSub, Nat.reduceMul, Nat.reduceBEq, Int.reduceToNat, Int.reduceNeg, Int.reduceLE, Int.reduceLT, Int.reduceBEq, Int.reduceBNe, Int.reduceEq, Bool.not_true, Bool.not_false, eq_self, reduceCtorEq]
    refine ⟨fun h => ?_, fun g2 => ⟨fun g3 => ?_, fun g3 => ?_⟩⟩
    · refine callW_eq _ _ (f12) ?_
      simp (config := {implicitDefEqProofs := false, maxSteps := 4000000}) (disch := omega) only [push_cast, c9, Nat.reduceAdd, Nat.reduceSub, Nat.reduceMul, Nat.reduceBEq, Int.reduceToNat, Int.reduceNeg, Int.reduceLE, Int.reduceLT, Int.reduceBEq, Int.reduceBNe, Int.reduceEq, Bool.not_true, Bool.not_false, eq_self, reduceCtorEq]
    · refine callW_eq _ _ (f12) ?_
      simp (config := {implicitDefEqProofs := false, maxSteps := 4000000}) (disch := omega) only [push_cast, c9, Nat.reduceAdd, Nat.reduceSub, Nat.reduceMul, Nat.reduceBEq, Int.reduceToNat, Int.reduceNeg, Int.reduceLE, Int.reduceLT, Int.reduceBEq, Int.reduceBNe, Int.reduceEq, Bool.not_true, Bool.not_false, eq_self, reduceCtorEq]
    subst g3
    obtain ⟨hp, hq, hT2⟩ := he2 g2
    have hV1 := vmB_iff.1 hp.1
    have hV2 : VM M Q (N.getD 0 []).length := by rw [hq.2.2]; exact vmB_iff.1 hp.2
    have hwl2 := hT2.sm hV1 hV2 hq.1 hq.2.1
    have hst2 := hT2.states hV1 hV2 hq.1 hq.2.1
    have htl2 := hT2.tell hV1 hV2 hq.1 hq.2.1
    have hf2 := (hT2.first hV1 hV2 hq.1 hq.2.1).2.2.2
    refine ⟨fun _ => ?_, fun h => by omega⟩
    refine callW_eq _ _ (f31 N O M Q false false false false nz2 x y w2 hb hc (by omega) hp.1 hp.2 ⟨hq.1, htl2.1⟩ ⟨hq.2.1, by rw [← hq.2.2]; exact htl2.1⟩ htl2.2.1 htl2.2.2.1 htl2.2.2.2) ?_
    simp (config := {implicitDefEqProofs := false, maxSteps := 4000000}) (disch := omega) only [push_cast, c9, Nat.reduceAdd, Nat.reduceSub, Nat.reduceMul, Nat.reduceBEq, Int.reduceToNat, Int.reduceNeg, Int.reduceLE, Int.reduceLT, Int.reduceBEq, Int.reduceBNe, Int.reduceEq, Bool.not_true, Bool.not_false, eq_self, reduceCtorEq]
    refine callW_eq _ _ (f32 N O M Q false false false false nz2 false x y w2 v _ hb hc (by omega) (by omega) hV1 hV2 hq.1 hq.2.1 hf2) ?_
    simp (config := {implicitDefEqProofs := false, maxSteps := 4000000}) (disch := omega) only [push_cast, c9, Nat.reduceAdd, Nat.reduceSub, Nat.reduceMul, Nat.reduceBEq, Int.reduceToNat, Int.reduceNeg, Int.reduceLE, Int.reduceLT, Int.reduceBEq, Int.reduceBNe, Int.reduceEq, Bool.not_true, Bool.not_false, eq_self, reduceCtorEq]
    refine callW_eq _ _ (f12) ?_
    simp (config := {implicitDefEqProofs := false, maxSteps := 4000000}) (disch := omega) only [push_cast, c9, Nat.reduceAdd, Nat.reduceSub, Nat.reduceMul, Nat.reduceBEq, Int.reduceToNat, Int.reduceNeg, Int.reduceLE, Int.reduceLT, Int.reduceBEq, Int.reduceBNe, Int.reduceEq, Bool.not_true, Bool.not_false, eq_self, reduceCtorEq]
  refine callW_rel (eq_any false false false false x y hb hc) ?_
  rintro R O' ⟨is, w2, nz2, e2, he2, rfl, rfl⟩
  simp (config := {implicitDefEqProofs := false, maxSteps := 4000000}) (disch := omega) only [push_cast, c9, Nat.reduceAdd, Nat.reduceSub, Nat.reduceMul, Nat.reduceBEq, Int.reduceToNat, Int.reduceNeg, Int.reduceLE, Int.reduceLT, Int.reduceBEq, Int.reduceBNe, Int.reduceEq, Bool.not_true, Bool.not_false, eq_self, reduceCtorEq]
  refine ⟨fun h => ?_, fun g2 => ⟨fun g3 => ?_, fun g3 => ?_⟩⟩
  · refine callW_eq _ _ (f12) ?_
    simp (config := {implicitDefEqProofs := false, maxSteps := 4000000}) (disch := omega) only [push_cast, c9, Nat.reduceAdd, Nat.reduceSub, Nat.reduceMul, Nat.reduceBEq, Int.reduceToNat, Int.reduceNeg, Int.reduceLE, Int.reduceLT, Int.reduceBEq, Int.reduceBNe, Int.reduceEq, Bool.not_true, Bool.not_false, eq_self, reduceCtorEq]
  · refine callW_eq _ _ (f12) ?_
    simp (config := {implicitDefEqProofs := false, maxSteps := 4000000}) (disch := omega) only [push_cast, c9, Nat.reduceAdd, Nat.reduceSub, Nat.reduceMul, Nat.reduceBEq, Int.reduceToNat, Int.reduceNeg, Int.reduceLE, Int.reduceLT, Int.reduceBEq, Int.reduceBNe, Int.reduceEq, Bool.not_true, Bool.not_false, eq_self, reduceCtorEq]
  subst g3
  obtain ⟨hp, hq, hT2⟩ := he2 g2
  have hV1 := vmB_iff.1 hp.1
  have hV2 : VM M Q (N.getD 0 []).length := by rw [hq.2.2]; exact vmB_iff.1 hp.2
  have hwl2 := hT2.sm hV1 hV2 hq.1 hq.2.1
  have hst2 := hT2.states hV1 hV2 hq.1 hq.2.1
  have htl2 := hT2.tell hV1 hV2 hq.1 hq.2.1
  have hf2 := (hT2.first hV1 hV2 hq.1 hq.2.1).2.2.2
  refine ⟨fun _ => ?_, fun h => by omega⟩
  refine callW_eq _ _ (f31 N O M Q false false false false nz2 x y w2 hb hc (by omega) hp.1 hp.2 ⟨hq.1, htl2.1⟩ ⟨hq.2.1, by rw [← hq.2.2]; exact htl2.1⟩ htl2.2.1 htl2.2.2.1 htl2.2.2.2) ?_
  simp (config := {implicitDefEqProofs := false, maxSteps := 4000000}) (disch := omega) only [push_cast, c9, Nat.reduceAdd, Nat.reduceSub, Nat.reduceMul, Nat.reduceBEq, Int.reduceToNat, Int.reduceNeg, Int.reduceLE, Int.reduceLT, Int.reduceBEq, Int.reduceBNe, Int.reduceEq, Bool.not_true, Bool.not_false, eq_self, reduceCtorEq]
  refine callW_eq _ _ (f32 N O M Q false false false false nz2 false x y w2 v _ hb hc (by omega) (by omega) hV1 hV2 hq.1 hq.2.1 hf2) ?_
  simp (config := {implicitDefEqProofs := false, maxSteps := 4000000}) (disch := omega) only [push_cast, c9, Nat.reduceAdd, Nat.reduceSub, Nat.reduceMul, Nat.reduceBEq, Int.reduceToNat, Int.reduceNeg, Int.reduceLE, Int.reduceLT, Int.reduceBEq, Int.reduceBNe, Int.reduceEq, Bool.not_true, Bool.not_false, eq_self, reduceCtorEq]
  refine callW_eq _ _ (f12) ?_
  simp (config := {implicitDefEqProofs := false, maxSteps := 4000000}) (disch := omega) only [push_cast, c9, Nat.reduceAdd, Nat.reduceSub, Nat.reduceMul, Nat.reduceBEq, Int.reduceToNat, Int.reduceNeg, Int.reduceLE, Int.reduceLT, Int.reduceBEq, Int.reduceBNe, Int.reduceEq, Bool.not_true, Bool.not_false, eq_self, reduceCtorEq]
theorem lawMealyShort (N O : List (List Int)) (x : Int) (M Q : List (List Int)) (y : Int) (v : List Int) (hl : N.length ≤ 4611686018427387904) (_ : ∀ r ∈ N, r.length ≤ 4611686018427387904) (ho : O.length ≤ 4611686018427387904) (_ : ∀ r ∈ O, r.length ≤ 4611686018427387904)
    (hm : M.length ≤ 4611686018427387904) (_ : ∀ r ∈ M, r.length ≤ 4611686018427387904) (hq : Q.length ≤ 4611686018427387904) (_ : ∀ r ∈ Q, r.length ≤ 4611686018427387904) (hv : v.length ≤ 17592186044416) :
    ACall Tryd.prog 9 [.agg [.pay (.rows (N)) (false), .pay (.rows (O)) (false)], .int .i64 x, .agg [.pay (.rows (M)) (false), .pay (.rows (Q)) (false)], .int .i64 y, .pay (.ints .i64 v) false] (fun r objs => r = .bool true ∧ objs = []) := f9 N O x M Q y v hl ho hm hq hv
end Go.AM
end

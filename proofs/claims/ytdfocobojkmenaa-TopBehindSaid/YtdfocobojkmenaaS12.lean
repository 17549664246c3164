/-
  Contracts of Passes on both sides, and of the reference's Run and Word; conditions in each statement.
-/
import Derived.Test.YtdfocobojkmenaaS7
set_option linter.unusedVariables false
set_option linter.unusedSimpArgs false
set_option linter.unusedSectionVars false
set_option linter.unnecessarySimpa false

/-! text Uk29 -/
section
namespace Go.AM
open Go Go.Proofs Go.Sort
/- mizmaze/mizmazeref07.Word -/
def c27 : VCfg := ⟨⟨[], [], [], [0, 1, 4, 5, 8, 12, 27]⟩, [], [], []⟩
theorem f27 (k : Nat) (w : List Int) (z : Bool) (hl : w.length ≤ 4611686018427387904) :
    ACall Try.prog 27 [.int .i64 k, .pay (.ints .i64 w) z] (fun r objs => r = .bool (wordB k w) ∧ objs = []) := by
  refine acall_intro (tyP_ok _) c27 2000 [.tmp 4] Try.func27 rfl (by rfl) rfl (by kernel_rfl) ?_
  unfold Try.f27
  simp (config := {implicitDefEqProofs := false, maxSteps := 4000000}) (disch := omega) only [push_cast, c27, Nat.reduceAdd, Nat.reduceSub, Nat.reduceMul, Nat.reduceBEq, Int.reduceToNat, Int.reduceNeg, Int.reduceLE, Int.reduceLT, Int.reduceBEq, Int.reduceBNe, Int.reduceEq, Bool.not_true, Bool.not_false, eq_self, reduceCtorEq]
  refine ⟨fun h => by simp [wordB, show ¬ w.length ≤ 40000 by omega], fun h40 => ?_⟩
  refine awp_upto (tyP_ok _) c27 2000 [0, 1, 4, 5] (w.length) (fun i => ∀ j, j < i → 0 ≤ w.getD j 0 ∧ w.getD j 0 < k) (fun i => ⟨28, [(0, .int .i64 k), (1, .pay (.ints .i64 w) z), (4, .bool false), (5, .int .i64 i)], []⟩) (by kernel_rfl) ?_ ?_ ?_
  · simp (config := {implicitDefEqProofs := false, maxSteps := 4000000}) (disch := omega) only [push_cast, c27, Nat.reduceAdd, Nat.reduceSub, Nat.reduceMul, Nat.reduceBEq, Int.reduceToNat, Int.reduceNeg, Int.reduceLE, Int.reduceLT, Int.reduceBEq, Int.reduceBNe, Int.reduceEq, Bool.not_true, Bool.not_false, eq_self, reduceCtorEq]
  · exact fun j hj => by omega
  intro i hi hr
  simp (config := {implicitDefEqProofs := false, maxSteps := 4000000}) (disch := omega) only [push_cast, c27, Nat.reduceAdd, Nat.reduceSub, Nat.reduceMul, Nat.reduceBEq, Int.reduceToNat, Int.reduceNeg, Int.reduceLE, Int.reduceLT, Int.reduceBEq, Int.reduceBNe, Int.reduceEq, Bool.not_true, Bool.not_false, eq_self, reduceCtorEq]
  refine ⟨fun hlt => ⟨hlt, fun h => (wordB_false (getD_mem hlt) (.inl h)).symm, fun h0 => ⟨hlt, fun h => (wordB_false (getD_mem hlt) (.inr h)).symm, fun h => ⟨hlt, upto_succ hr ⟨h0, h⟩⟩⟩⟩, fun hge => (wordB_iff.2 ⟨by omega, fun x hx => ?_⟩).symm⟩
  obtain ⟨j, hj, rfl⟩ := mem_of_getD (d := 0) hx
  exact hr j (by omega)
/- mizmaze/mizmazeref07.Run -/
def c63 : VCfg := ⟨⟨[], [], [8], [0, 1, 2, 3, 6, 7, 8, 9, 13]⟩, [(5, (.op 0 .loose (.op 1 .strict (.op 2 .strict (.op 3 .strict (.op 4 .strict (.op 5 .strict (.op 6 .strict (.op 7 .strict (.op 8 .strict (.op 9 .strict (.op 10 .strict (.op 11 .strict (.op 12 .eff (.op 13 .eff (.op 14 .loose .nil)))))))))))))))), (6, (.op 0 .loose (.op 1 .loose (.op 2 .loose (.op 3 .loose (.op 4 .loose (.op 5 .loose (.op 6 .loose (.op 7 .loose (.op 8 .loose (.op 9 .loose (.op 10 .loose (.op 11 .loose .nil)))))))))))))], [], []⟩
set_option maxRecDepth 100000 in
theorem f63 (N O : List (List Int)) (z z' u : Bool) (s : Int) (w : List Int) (k : Nat) (hV : VM N O k) (hs : 0 ≤ s ∧ s < N.length) (hw : ∀ x ∈ w, 0 ≤ x ∧ x < k) (hl : w.length ≤ 1000000) :
    ACall Try.prog 63 [.agg [.pay (.rows (N)) (z), .pay (.rows (O)) (z')], .int .i64 s, .pay (.ints .i64 w) u] (fun r objs => ∃ nz, r = .tup [.pay (.ints .i64 (outsG N O s w)) nz, .int .i64 (leadG N s w)] ∧ objs = []) := by
  suffices h : ACall Try.prog 63 [.agg [.pay (.rows (N)) (z), .pay (.rows (O)) (z')], .int .i64 s, .pay (.ints .i64 w) u] (fun r objs => r = .tup [.own 0, .int .i64 (leadG N s w)] ∧ objs = [.arr (.ints .i64 (outsG N O s w)) ⟨3, true⟩]) by
    refine h.frz ?_
    rintro r objs ⟨rfl, rfl⟩
    exact ⟨[0], _, 1, rfl, _, rfl, rfl⟩
  refine acall_intro (tyP_ok _) c63 2000 [.tmp 6, .tmp 7] Try.func63 rfl (by rfl) rfl (by kernel_rfl) ?_
  unfold Try.f63
  simp (config := {implicitDefEqProofs := false, maxSteps := 4000000}) (disch := omega) only [push_cast, c63, Nat.reduceAdd, Nat.reduceSub, Nat.reduceMul, Nat.reduceBEq, Int.reduceToNat, Int.reduceNeg, Int.reduceLE, Int.reduceLT, Int.reduceBEq, Int.reduceBNe, Int.reduceEq, Bool.not_true, Bool.not_false, eq_self, reduceCtorEq]
  refine awp_upd (tyP_ok _) c63 2000 [1, 2, 3, 6, 7, 8, 9] (w.length) (fun _ => True) (fun i => [(1, .int .i64 (leadG N s (w.take i))), (9, .int .i64 i)]) (fun i => [(0, .arr (.ints .i64 (outsG N O s (w.take i))) ⟨3, true⟩)]) (by kernel_rfl) (by rw [List.take_zero]; rfl) ?_ ?_
  · trivial
  intro i hi _
  simp (config := {implicitDefEqProofs := false, maxSteps := 4000000}) (disch := omega) only [push_cast, c63, Nat.reduceAdd, Nat.reduceSub, Nat.reduceMul, Nat.reduceBEq, Int.reduceToNat, Int.reduceNeg, Int.reduceLE, Int.reduceLT, Int.reduceBEq, Int.reduceBNe, Int.reduceEq, Bool.not_true, Bool.not_false, eq_self, reduceCtorEq]
  refine ⟨fun hlt => ?_, fun hge => ⟨by rw [List.take_of_length_le hge], by rw [List.take_of_length_le hge]⟩⟩
  have h1 := hV.v.lead (w.take i) hs.1 hs.2 fun c hc => hw c (List.mem_of_mem_take hc)
  have h2 := hw _ (getD_mem hlt)
  have h3 := (hV.v.row _ (getD_mem' (show (leadG N s (w.take i)).toNat < N.length by omega))).1
  have hol := hV.ol
  have h4 := (hV.orow _ (getD_mem' (show (leadG N s (w.take i)).toNat < O.length by omega))).1
  have h5 := outsG_len N O (w.take i) s
  rw [List.length_take] at h5
  refine ⟨⟨h1.1, by omega⟩, hlt, ⟨h2.1, by omega⟩, by omega, h1, hlt, ⟨h2.1, by omega⟩, hlt, ?_, (outsG_take N O s w i hlt).symm⟩
  rw [take_snoc hlt, leadG_snoc]
/-- whether words have the same outputs -/
def passB (N O M Q : List (List Int)) (words : List (List Int)) : Bool := words.all fun w => decide (outsG N O 0 w = outsG M Q 0 w)
/-- what Passes answers -/
def PassR (N O M Q : List (List Int)) (words : List (List Int)) (is : Bool) (e : Int) : Prop :=
  ((vmB N O = false ∨ vmB M Q = false) ∧ e = 1 ∧ is = false) ∨ ((vmB N O = true ∧ vmB M Q = true) ∧ ((N.getD 0 []).length ≠ (M.getD 0 []).length ∨ words.all (fun w => wordB (N.getD 0 []).length w) = false) ∧ e = 2 ∧ is = false) ∨
  ((vmB N O = true ∧ vmB M Q = true) ∧ (N.getD 0 []).length = (M.getD 0 []).length ∧ words.all (fun w => wordB (N.getD 0 []).length w) = true ∧ e = 0 ∧ is = passB N O M Q words)
/- mizmaze/check.Passes$1 -/
def c57 : VCfg := ⟨⟨[], [], [], [0, 1, 3]⟩, [], [], []⟩
theorem f57 (N O : List (List Int)) (z z' : Bool) (w : List Int) (u : Bool) (hn : 0 < N.length) (hw : w.length ≤ 4611686018427387904) :
    ACall Try.prog 57 [.pay (.ints .i64 w) u, .fref [.pay (.rows N) z, .pay (.rows O) z']] (fun r objs => r = .bool (!wordB (N.getD 0 []).length w) ∧ objs = []) := by
  refine acall_intro (tyP_ok _) c57 2000 [.tmp 3] Try.func57 rfl (by rfl) rfl (by kernel_rfl) ?_
  unfold Try.f57
  simp (config := {implicitDefEqProofs := false, maxSteps := 4000000}) (disch := omega) only [push_cast, c57, Nat.reduceAdd, Nat.reduceSub, Nat.reduceMul, Nat.reduceBEq, Int.reduceToNat, Int.reduceNeg, Int.reduceLE, Int.reduceLT, Int.reduceBEq, Int.reduceBNe, Int.reduceEq, Bool.not_true, Bool.not_false, eq_self, reduceCtorEq]
  refine callW_eq _ _ (f59 N O z z') ?_
  simp (config := {implicitDefEqProofs := false, maxSteps := 4000000}) (disch := omega) only [push_cast, c57, Nat.reduceAdd, Nat.reduceSub, Nat.reduceMul, Nat.reduceBEq, Int.reduceToNat, Int.reduceNeg, Int.reduceLE, Int.reduceLT, Int.reduceBEq, Int.reduceBNe, Int.reduceEq, Bool.not_true, Bool.not_false, eq_self, reduceCtorEq]
  refine callW_eq _ _ (f58 N z u w hn hw) ?_
  simp (config := {implicitDefEqProofs := false, maxSteps := 4000000}) (disch := omega) only [push_cast, c57, Nat.reduceAdd, Nat.reduceSub, Nat.reduceMul, Nat.reduceBEq, Int.reduceToNat, Int.reduceNeg, Int.reduceLE, Int.reduceLT, Int.reduceBEq, Int.reduceBNe, Int.reduceEq, Bool.not_true, Bool.not_false, eq_self, reduceCtorEq]
/- mizmaze/check.Passes$2 -/
def c60 : VCfg := ⟨⟨[], [], [], [0, 1, 2, 4, 5, 7]⟩, [], [], []⟩
theorem f60 (N O M Q : List (List Int)) (z z' y y' : Bool) (w : List Int) (u : Bool) (k : Nat) (hN : VM N O k) (hM : VM M Q k) (hw : ∀ x ∈ w, 0 ≤ x ∧ x < k) (hl : w.length ≤ 1000000) :
    ACall Try.prog 60 [.pay (.ints .i64 w) u, .fref [.pay (.rows N) z, .pay (.rows O) z'], .fref [.pay (.rows M) y, .pay (.rows Q) y']] (fun r objs => r = .bool (!decide (outsG N O 0 w = outsG M Q 0 w)) ∧ objs = []) := by
  have hn1 := hN.v.n1
  have hm1 := hM.v.n1
  refine acall_intro (tyP_ok _) c60 2000 [.tmp 4] Try.func60 rfl (by rfl) rfl (by kernel_rfl) ?_
  unfold Try.f60
  simp (config := {implicitDefEqProofs := false, maxSteps := 4000000}) (disch := omega) only [push_cast, c60, Nat.reduceAdd, Nat.reduceSub, Nat.reduceMul, Nat.reduceBEq, Int.reduceToNat, Int.reduceNeg, Int.reduceLE, Int.reduceLT, Int.reduceBEq, Int.reduceBNe, Int.reduceEq, Bool.not_true, Bool.not_false, eq_self, reduceCtorEq]
  refine callW_eq _ _ (f61 N O z z' u 0 w k hN ⟨by omega, by omega⟩ hw (by omega)) ?_
  simp (config := {implicitDefEqProofs := false, maxSteps := 4000000}) (disch := omega) only [push_cast, c60, Nat.reduceAdd, Nat.reduceSub, Nat.reduceMul, Nat.reduceBEq, Int.reduceToNat, Int.reduceNeg, Int.reduceLE, Int.reduceLT, Int.reduceBEq, Int.reduceBNe, Int.reduceEq, Bool.not_true, Bool.not_false, eq_self, reduceCtorEq]
  refine callW_eq _ _ (f61 M Q y y' u 0 w k hM ⟨by omega, by omega⟩ hw (by omega)) ?_
  simp (config := {implicitDefEqProofs := false, maxSteps := 4000000}) (disch := omega) only [push_cast, c60, Nat.reduceAdd, Nat.reduceSub, Nat.reduceMul, Nat.reduceBEq, Int.reduceToNat, Int.reduceNeg, Int.reduceLE, Int.reduceLT, Int.reduceBEq, Int.reduceBNe, Int.reduceEq, Bool.not_true, Bool.not_false, eq_self, reduceCtorEq]
  have hol := outsG_len N O w 0
  refine callW_eq _ _ (f62 (outsG N O 0 w) (outsG M Q 0 w) true true (by omega)) ?_
  simp (config := {implicitDefEqProofs := false, maxSteps := 4000000}) (disch := omega) only [push_cast, c60, Nat.reduceAdd, Nat.reduceSub, Nat.reduceMul, Nat.reduceBEq, Int.reduceToNat, Int.reduceNeg, Int.reduceLE, Int.reduceLT, Int.reduceBEq, Int.reduceBNe, Int.reduceEq, Bool.not_true, Bool.not_false, eq_self, reduceCtorEq]
/- mizmaze/check.Passes -/
def c25 : VCfg := ⟨⟨[], [], [], [0, 1, 2, 3, 4, 6, 7, 8, 17]⟩, [(3, (.op 0 .loose (.op 1 .loose (.op 2 .loose (.op 3 .loose (.op 4 .loose (.op 5 .loose (.op 6 .loose (.op 7 .loose (.op 8 .loose (.op 9 .loose (.op 10 .loose (.op 11 .loose (.op 12 .loose (.op 13 .loose (.op 14 .eff (.op 15 .loose (.op 16 .loose .nil))))))))))))))))))], [], []⟩
set_option maxHeartbeats 4000000 in
set_option maxRecDepth 100000 in
theorem f25 (N O M Q : List (List Int)) (z z' y y' : Bool) (words : List (List Int)) (u : Bool) (hb : (N.length ≤ 4611686018427387904 ∧ ∀ r ∈ N, r.length ≤ 4611686018427387904) ∧ O.length ≤ 4611686018427387904 ∧ ∀ r ∈ O, r.length ≤ 4611686018427387904) (hb2 : (M.length ≤ 4611686018427387904 ∧ ∀ r ∈ M, r.length ≤ 4611686018427387904) ∧ Q.length ≤ 4611686018427387904 ∧ ∀ r ∈ Q, r.length ≤ 4611686018427387904) (hw : words.length ≤ 4611686018427387904 ∧ ∀ r ∈ words, r.length ≤ 4611686018427387904) :
    ACall Try.prog 25 [.agg [.pay (.rows (N)) (z), .pay (.rows (O)) (z')], .agg [.pay (.rows (M)) (y), .pay (.rows (Q)) (y')], .pay (.rows words) u] (fun r objs => ∃ is e, PassR N O M Q words is e ∧ r = .tup [.bool is, .int .i64 e] ∧ objs = []) := by
  refine acall_intro (tyP_ok _) c25 2000 [.tmp 6, .tmp 7] Try.func25 rfl (by rfl) rfl (by kernel_rfl) ?_
  unfold Try.f25
  simp (config := {implicitDefEqProofs := false, maxSteps := 4000000}) (disch := omega) only [push_cast, c25, Nat.reduceAdd, Nat.reduceSub, Nat.reduceMul, Nat.reduceBEq, Int.reduceToNat, Int.reduceNeg, Int.reduceLE, Int.reduceLT, Int.reduceBEq, Int.reduceBNe, Int.reduceEq, Bool.not_true, Bool.not_false, eq_self, reduceCtorEq]
  refine callW_eq _ _ (f55 N O z z' hb.1.1 hb.1.2 hb.2.1 hb.2.2) ?_
  simp (config := {implicitDefEqProofs := false, maxSteps := 4000000}) (disch := omega) only [push_cast, c25, Nat.reduceAdd, Nat.reduceSub, Nat.reduceMul, Nat.reduceBEq, Int.reduceToNat, Int.reduceNeg, Int.reduceLE, Int.reduceLT, Int.reduceBEq, Int.reduceBNe, Int.reduceEq, Bool.not_true, Bool.not_false, eq_self, reduceCtorEq]
  refine ⟨fun hv => ⟨_, _, .inl ⟨.inl hv, rfl, rfl⟩, rfl, rfl⟩, fun hv => ?_⟩
  refine callW_eq _ _ (f55 M Q y y' hb2.1.1 hb2.1.2 hb2.2.1 hb2.2.2) ?_
  simp (config := {implicitDefEqProofs := false, maxSteps := 4000000}) (disch := omega) only [push_cast, c25, Nat.reduceAdd, Nat.reduceSub, Nat.reduceMul, Nat.reduceBEq, Int.reduceToNat, Int.reduceNeg, Int.reduceLE, Int.reduceLT, Int.reduceBEq, Int.reduceBNe, Int.reduceEq, Bool.not_true, Bool.not_false, eq_self, reduceCtorEq]
  refine ⟨fun hv => ⟨_, _, .inl ⟨.inr hv, rfl, rfl⟩, rfl, rfl⟩, fun hv2 => ?_⟩
  have hV := vmB_iff.1 hv
  have hV2 := vmB_iff.1 hv2
  have hn1 := hV.v.n1
  have hm1 := hV2.v.n1
  refine ⟨by omega, by omega, fun hne => ⟨_, _, .inr (.inl ⟨⟨hv, hv2⟩, .inl hne, rfl, rfl⟩), rfl, rfl⟩, fun he => ?_⟩
  refine callW_eq _ _ (f56 words u hw.1 57 _ (fun w => !wordB (N.getD 0 []).length w) (fun w h => f57 N O z z' w false (by omega) (hw.2 w h)) (NoH.of rfl rfl)) ?_
  simp (config := {implicitDefEqProofs := false, maxSteps := 4000000}) (disch := omega) only [push_cast, c25, Nat.reduceAdd, Nat.reduceSub, Nat.reduceMul, Nat.reduceBEq, Int.reduceToNat, Int.reduceNeg, Int.reduceLE, Int.reduceLT, Int.reduceBEq, Int.reduceBNe, Int.reduceEq, Bool.not_true, Bool.not_false, eq_self, reduceCtorEq]
  refine ⟨fun hany => ⟨_, _, .inr (.inl ⟨⟨hv, hv2⟩, .inr ?_, rfl, rfl⟩), rfl, rfl⟩, fun hany => ?_⟩
  · rw [← Bool.not_eq_true, List.all_eq_true]
    obtain ⟨w, h1, h2⟩ := List.any_eq_true.1 hany
    intro h3
    rw [h3 w h1] at h2; cases h2
  have hall : ∀ w ∈ words, wordB (N.getD 0 []).length w = true := fun w h1 => by
    have := List.any_eq_false.1 hany w h1
    simpa using this
  rw [← he] at hV2
  have hLR := fun w (h1 : w ∈ words) => wordB_iff.1 (hall w h1)
  refine callW_eq _ _ (f56 words u hw.1 60 _ (fun w => !decide (outsG N O 0 w = outsG M Q 0 w)) (fun w h => f60 N O M Q z z' y y' w false _ hV hV2 (hLR w h).2 (by have := (hLR w h).1; omega)) (NoH.of rfl rfl)) ?_
  simp (config := {implicitDefEqProofs := false, maxSteps := 4000000}) (disch := omega) only [push_cast, c25, Nat.reduceAdd, Nat.reduceSub, Nat.reduceMul, Nat.reduceBEq, Int.reduceToNat, Int.reduceNeg, Int.reduceLE, Int.reduceLT, Int.reduceBEq, Int.reduceBNe, Int.reduceEq, Bool.not_true, Bool.not_false, eq_self, reduceCtorEq]
  refine ⟨_, _, .inr (.inr ⟨⟨hv, hv2⟩, he, List.all_eq_true.2 hall, rfl, rfl⟩), ?_, rfl⟩
  rw [Bool.eq_iff_iff]
  simp [passB]
/- mizmaze/mizmazeref09.Passes -/
def c28 : VCfg := ⟨⟨[], [], [], [0, 1, 2, 3, 4, 6, 7, 8, 10, 15, 39]⟩, [(4, (.op 0 .loose (.op 1 .loose (.op 2 .loose (.op 3 .loose (.op 4 .loose (.op 5 .eff (.op 6 .loose (.op 7 .loose (.op 8 .loose (.op 9 .loose (.op 10 .loose .nil)))))))))))), (5, (.op 0 .loose (.op 1 .loose (.op 2 .loose (.op 3 .loose (.op 4 .loose (.op 5 .eff (.op 6 .loose (.op 7 .loose (.op 8 .loose (.op 9 .loose (.op 10 .loose .nil))))))))))))], [], []⟩
set_option maxHeartbeats 4000000 in
set_option maxRecDepth 100000 in
theorem f28 (N O M Q : List (List Int)) (z z' y y' : Bool) (words : List (List Int)) (u : Bool) (k : Nat) (hN : VM N O k) (hM : VM M Q k) (hl : words.length ≤ 4611686018427387904) (hw : ∀ w ∈ words, wordB k w = true) :
    ACall Try.prog 28 [.agg [.pay (.rows (N)) (z), .pay (.rows (O)) (z')], .agg [.pay (.rows (M)) (y), .pay (.rows (Q)) (y')], .pay (.rows words) u] (fun r objs => r = .bool (passB N O M Q words) ∧ objs = []) := by
  have hn1 := hN.v.n1
  have hm1 := hM.v.n1
  refine acall_intro (tyP_ok _) c28 2000 [.tmp 6] Try.func28 rfl (by rfl) rfl (by kernel_rfl) ?_
  unfold Try.f28
  simp (config := {implicitDefEqProofs := false, maxSteps := 4000000}) (disch := omega) only [push_cast, c28, Nat.reduceAdd, Nat.reduceSub, Nat.reduceMul, Nat.reduceBEq, Int.reduceToNat, Int.reduceNeg, Int.reduceLE, Int.reduceLT, Int.reduceBEq, Int.reduceBNe, Int.reduceEq, Bool.not_true, Bool.not_false, eq_self, reduceCtorEq]
  refine awp_upto (tyP_ok _) c28 2000 [2, 3, 4, 6, 7] (words.length) (fun i => ∀ j, j < i → outsG N O 0 (words.getD j []) = outsG M Q 0 (words.getD j [])) (fun i => ⟨40, [(2, .pay (.rows words) u), (3, .fref [.pay (.rows N) z, .pay (.rows O) z']), (4, .fref [.pay (.rows M) y, .pay (.rows Q) y']), (6, .bool false), (7, .int .i64 i)], []⟩) (by kernel_rfl) ?_ ?_ ?_
  · simp (config := {implicitDefEqProofs := false, maxSteps := 4000000}) (disch := omega) only [push_cast, c28, Nat.reduceAdd, Nat.reduceSub, Nat.reduceMul, Nat.reduceBEq, Int.reduceToNat, Int.reduceNeg, Int.reduceLE, Int.reduceLT, Int.reduceBEq, Int.reduceBNe, Int.reduceEq, Bool.not_true, Bool.not_false, eq_self, reduceCtorEq]
  · exact fun j hj => by omega
  intro i hi hp
  simp (config := {implicitDefEqProofs := false, maxSteps := 4000000}) (disch := omega) only [push_cast, c28, Nat.reduceAdd, Nat.reduceSub, Nat.reduceMul, Nat.reduceBEq, Int.reduceToNat, Int.reduceNeg, Int.reduceLE, Int.reduceLT, Int.reduceBEq, Int.reduceBNe, Int.reduceEq, Bool.not_true, Bool.not_false, eq_self, reduceCtorEq]
  refine ⟨fun hlt => ⟨hlt, ?_⟩, fun hge => ?_⟩
  · have hwi := wordB_iff.1 (hw (words.getD i []) (by rw [List.getD_eq_getElem?_getD, List.getElem?_eq_getElem hlt]; exact List.getElem_mem _))
    refine callW_rel (f63 N O z z' false 0 (words.getD i []) k hN ⟨by omega, by omega⟩ hwi.2 (by omega)) ?_
    rintro R O' ⟨nz1, rfl, rfl⟩
    simp (config := {implicitDefEqProofs := false, maxSteps := 4000000}) (disch := omega) only [push_cast, c28, Nat.reduceAdd, Nat.reduceSub, Nat.reduceMul, Nat.reduceBEq, Int.reduceToNat, Int.reduceNeg, Int.reduceLE, Int.reduceLT, Int.reduceBEq, Int.reduceBNe, Int.reduceEq, Bool.not_true, Bool.not_false, eq_self, reduceCtorEq]
    refine ⟨hlt, ?_⟩
    refine callW_rel (f63 M Q y y' false 0 (words.getD i []) k hM ⟨by omega, by omega⟩ hwi.2 (by omega)) ?_
    rintro R O' ⟨nz2, rfl, rfl⟩
    simp (config := {implicitDefEqProofs := false, maxSteps := 4000000}) (disch := omega) only [push_cast, c28, Nat.reduceAdd, Nat.reduceSub, Nat.reduceMul, Nat.reduceBEq, Int.reduceToNat, Int.reduceNeg, Int.reduceLE, Int.reduceLT, Int.reduceBEq, Int.reduceBNe, Int.reduceEq, Bool.not_true, Bool.not_false, eq_self, reduceCtorEq]
    have hol := outsG_len N O (words.getD i []) 0
    refine callW_eq _ _ (f23 (outsG N O 0 (words.getD i [])) (outsG M Q 0 (words.getD i [])) nz1 nz2 (by omega)) ?_
    simp (config := {implicitDefEqProofs := false, maxSteps := 4000000}) (disch := omega) only [push_cast, c28, Nat.reduceAdd, Nat.reduceSub, Nat.reduceMul, Nat.reduceBEq, Int.reduceToNat, Int.reduceNeg, Int.reduceLE, Int.reduceLT, Int.reduceBEq, Int.reduceBNe, Int.reduceEq, Bool.not_true, Bool.not_false, eq_self, reduceCtorEq]
    refine ⟨fun hne => ?_, fun heq => ⟨hlt, upto_succ hp heq⟩⟩
    symm
    rw [← Bool.not_eq_true, passB, List.all_eq_true]
    intro h
    exact hne (of_decide_eq_true (h (words.getD i []) (by rw [List.getD_eq_getElem?_getD, List.getElem?_eq_getElem hlt]; exact List.getElem_mem _)))
  · symm
    rw [passB, List.all_eq_true]
    intro w hw
    obtain ⟨j, hj, rfl⟩ := mem_at hw
    exact decide_eq_true (hp j (by omega))
end Go.AM
end

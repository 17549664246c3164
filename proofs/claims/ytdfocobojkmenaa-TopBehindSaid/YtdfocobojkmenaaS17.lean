/-
  Contract of TopBehind; conditions in each statement.
-/
import Derived.Test.YtdfocobojkmenaaS18
import Derived.Test.YtdfocobojkmenaaS16
import Derived.Test.YtdfocobojkmenaaF5
set_option linter.unusedVariables false
set_option linter.unusedSimpArgs false
set_option linter.unusedSectionVars false
set_option linter.unnecessarySimpa false

/-! text Uk37 -/
section
namespace Go.AM
open Go Go.Proofs Go.Sort
theorem flat_len {α β : Type} {f : α → List β} {c : Nat} : ∀ {l : List α}, (∀ x ∈ l, (f x).length ≤ c) → (l.flatMap f).length ≤ l.length * c
  | [], _ => by simp
  | x :: l, h => by
    have h1 := h x (by simp)
    have h2 := flat_len (l := l) fun y hy => h y (by simp [hy])
    rw [List.flatMap_cons, List.length_append, List.length_cons, Nat.add_mul]
    omega
theorem midW_sm {k : Nat} (hk : k ≤ 3) (w : List Int) : (midW k 1 w).length ≤ 4 ∧ (midW k 2 w).length ≤ 13 ∧ (midW k 3 w).length ≤ 40 := by
  have go : ∀ f c, (∀ w, (midW k f w).length ≤ c) → ∀ w, (midW k (f + 1) w).length ≤ 1 + 3 * c := fun f c h w => by
    show (w :: (List.range k).flatMap fun x : Nat => midW k f (w ++ [(x : Int)])).length ≤ _
    have := flat_len (f := fun x : Nat => midW k f (w ++ [(x : Int)])) (c := c) (l := List.range k) fun x _ => h _
    rw [List.length_range] at this
    have h2 : k * c ≤ 3 * c := Nat.mul_le_mul_right _ hk
    rw [List.length_cons]
    omega
  have h0 : ∀ w, (midW k 0 w).length ≤ 1 := fun w => by simp [midW]
  have h1 := go 0 1 h0
  have h2 := go 1 4 h1
  have h3 := go 2 13 h2
  exact ⟨h1 w, h2 w, h3 w⟩
theorem prs_sq (y : Nat) : (prs y 0).length ≤ y * y := by
  have := flat_len (f := fun b => (List.range b).map fun a => (a, b)) (c := y) (l := List.range y) fun x hx => by
    have := List.mem_range.1 hx
    simp; omega
  simpa [prs] using this
theorem suf_small {N O : List (List Int)} {k e : Nat} (hn1 : 1 ≤ N.length) (hn : N.length ≤ 6) (hk : k ≤ 3) (he : e ≤ 2) : cntW (sufL N O k e) ≤ 20000 := by
  refine Nat.le_trans (cntW_le _) ?_
  have hm : (midW k (e + 1) []).length ≤ 40 := by
    obtain ⟨h1, h2, h3⟩ := midW_sm hk []
    obtain rfl | rfl | rfl : e = 0 ∨ e = 1 ∨ e = 2 := by omega
    · exact Nat.le_trans h1 (by omega)
    · exact Nat.le_trans h2 (by omega)
    · exact h3
  have ht : (telL N O k).length ≤ 36 := by
    unfold telL
    split
    · simp
    · refine Nat.le_trans (onceL_length_le _) ?_
      rw [tws_len]
      refine Nat.le_trans (prs_sq _) ?_
      exact Nat.mul_le_mul hn hn
  have hc : (covL N k).length ≤ 6 := by rw [cov_len]; exact hn
  have h1 : ∀ u : List Int, (wM u (midW k (e + 1) []) (telL N O k)).length ≤ 1440 := fun u => by
    refine Nat.le_trans (flat_len (c := 36) fun v _ => by simp [wE]; exact ht) ?_
    omega
  refine Nat.le_trans (flat_len (c := 1440) fun u _ => h1 u) ?_
  omega
/- mizmaze/mizmazetop.TopBehind -/
def c9 : VCfg := ⟨⟨[], [], [], [0, 1, 2, 3, 4, 5, 6, 7, 8, 9, 10, 11, 12, 13, 14, 15, 17, 18, 19, 58, 89, 102, 128, 133, 147, 171]⟩, [(1, (.op 0 .loose (.op 1 .loose (.op 2 .strict (.op 3 .strict (.alt (.op 4 .eff (.op 5 .eff (.op 6 .eff (.op 7 .eff .nil)))) (.op 5 .eff (.op 4 .eff (.op 6 .eff (.op 7 .eff .nil)))))))))), (2, (.op 0 .loose (.op 1 .eff (.op 2 .loose (.op 3 .loose (.op 4 .loose (.op 5 .eff (.op 6 .loose (.op 7 .loose (.op 8 .loose (.op 9 .loose (.op 10 .loose (.op 11 .loose (.op 12 .loose (.op 13 .loose (.op 14 .loose (.op 15 .loose (.op 16 .loose (.op 17 .loose (.op 18 .loose (.op 19 .loose (.op 20 .loose (.op 21 .loose (.op 22 .loose (.op 23 .loose (.op 24 .loose (.op 25 .loose (.op 26 .loose (.op 27 .loose (.op 28 .loose (.op 29 .loose (.op 30 .loose (.op 31 .loose (.op 32 .loose (.op 33 .loose (.op 34 .loose .nil)))))))))))))))))))))))))))))))))))), (4, (.op 0 .loose (.op 1 .loose (.op 2 .loose (.op 5 .strict (.op 6 .strict (.alt (.op 3 .eff (.alt (.op 4 .eff (.alt (.op 7 .eff (.alt (.op 8 .eff (.op 9 .eff (.op 10 .eff (.op 11 .eff .nil)))) (.op 9 .eff (.op 8 .eff (.op 10 .eff (.op 11 .eff .nil)))))) (.alt (.op 8 .eff (.alt (.op 7 .eff (.op 9 .eff (.op 10 .eff (.op 11 .eff .nil)))) (.op 9 .eff (.op 7 .eff (.op 10 .eff (.op 11 .eff .nil)))))) (.op 9 .eff (.alt (.op 7 .eff (.op 8 .eff (.op 10 .eff (.op 11 .eff .nil)))) (.op 8 .eff (.op 7 .eff (.op 10 .eff (.op 11 .eff .nil))))))))) (.alt (.op 8 .eff (.alt (.op 4 .eff (.alt (.op 7 .eff (.op 9 .eff (.op 10 .eff (.op 11 .eff .nil)))) (.op 9 .eff (.op 7 .eff (.op 10 .eff (.op 11 .eff .nil)))))) (.op 9 .eff (.op 4 .eff (.op 7 .eff (.op 10 .eff (.op 11 .eff .nil))))))) (.op 9 .eff (.alt (.op 4 .eff (.alt (.op 7 .eff (.op 8 .eff (.op 10 .eff (.op 11 .eff .nil)))) (.op 8 .eff (.op 7 .eff (.op 10 .eff (.op 11 .eff .nil)))))) (.op 8 .eff (.op 4 .eff (.op 7 .eff (.op 10 .eff (.op 11 .eff .nil)))))))))) (.alt (.op 4 .eff (.alt (.op 3 .eff (.alt (.op 7 .eff (.alt (.op 8 .eff (.op 9 .eff (.op 10 .eff (.op 11 .eff .nil)))) (.op 9 .eff (.op 8 .eff (.op 10 .eff (.op 11 .eff .nil)))))) (.alt (.op 8 .eff (.alt (.op 7 .eff (.op 9 .eff (.op 10 .eff (.op 11 .eff .nil)))) (.op 9 .eff (.op 7 .eff (.op 10 .eff (.op 11 .eff .nil)))))) (.op 9 .eff (.alt (.op 7 .eff (.op 8 .eff (.op 10 .eff (.op 11 .eff .nil)))) (.op 8 .eff (.op 7 .eff (.op 10 .eff (.op 11 .eff .nil))))))))) (.alt (.op 8 .eff (.alt (.op 3 .eff (.alt (.op 7 .eff (.op 9 .eff (.op 10 .eff (.op 11 .eff .nil)))) (.op 9 .eff (.op 7 .eff (.op 10 .eff (.op 11 .eff .nil)))))) (.op 9 .eff (.op 3 .eff (.op 7 .eff (.op 10 .eff (.op 11 .eff .nil))))))) (.op 9 .eff (.alt (.op 3 .eff (.alt (.op 7 .eff (.op 8 .eff (.op 10 .eff (.op 11 .eff .nil)))) (.op 8 .eff (.op 7 .eff (.op 10 .eff (.op 11 .eff .nil)))))) (.op 8 .eff (.op 3 .eff (.op 7 .eff (.op 10 .eff (.op 11 .eff .nil)))))))))) (.alt (.op 8 .eff (.alt (.op 3 .eff (.alt (.op 4 .eff (.alt (.op 7 .eff (.op 9 .eff (.op 10 .eff (.op 11 .eff .nil)))) (.op 9 .eff (.op 7 .eff (.op 10 .eff (.op 11 .eff .nil)))))) (.op 9 .eff (.op 4 .eff (.op 7 .eff (.op 10 .eff (.op 11 .eff .nil))))))) (.alt (.op 4 .eff (.alt (.op 3 .eff (.alt (.op 7 .eff (.op 9 .eff (.op 10 .eff (.op 11 .eff .nil)))) (.op 9 .eff (.op 7 .eff (.op 10 .eff (.op 11 .eff .nil)))))) (.op 9 .eff (.op 3 .eff (.op 7 .eff (.op 10 .eff (.op 11 .eff .nil))))))) (.op 9 .eff (.alt (.op 3 .eff (.op 4 .eff (.op 7 .eff (.op 10 .eff (.op 11 .eff .nil))))) (.op 4 .eff (.op 3 .eff (.op 7 .eff (.op 10 .eff (.op 11 .eff .nil)))))))))) (.op 9 .eff (.alt (.op 3 .eff (.alt (.op 4 .eff (.alt (.op 7 .eff (.op 8 .eff (.op 10 .eff (.op 11 .eff .nil)))) (.op 8 .eff (.op 7 .eff (.op 10 .eff (.op 11 .eff .nil)))))) (.op 8 .eff (.op 4 .eff (.op 7 .eff (.op 10 .eff (.op 11 .eff .nil))))))) (.alt (.op 4 .eff (.alt (.op 3 .eff (.alt (.op 7 .eff (.op 8 .eff (.op 10 .eff (.op 11 .eff .nil)))) (.op 8 .eff (.op 7 .eff (.op 10 .eff (.op 11 .eff .nil)))))) (.op 8 .eff (.op 3 .eff (.op 7 .eff (.op 10 .eff (.op 11 .eff .nil))))))) (.op 8 .eff (.alt (.op 3 .eff (.op 4 .eff (.op 7 .eff (.op 10 .eff (.op 11 .eff .nil))))) (.op 4 .eff (.op 3 .eff (.op 7 .eff (.op 10 .eff (.op 11 .eff .nil))))))))))))))))))), (17, (.op 0 .loose (.op 1 .loose (.op 3 .loose (.op 4 .loose (.op 2 .eff (.op 5 .eff (.op 6 .eff (.op 7 .loose (.op 8 .eff (.op 9 .loose (.op 10 .loose .nil)))))))))))), (21, (.op 0 .loose (.op 1 .loose (.op 2 .loose (.op 3 .loose (.op 4 .loose (.op 5 .eff (.op 6 .loose (.op 7 .loose (.op 8 .loose (.op 9 .loose (.op 10 .loose (.op 11 .loose (.op 13 .loose (.op 14 .loose (.op 15 .loose (.op 16 .loose (.op 17 .loose (.op 12 .eff (.op 18 .eff (.op 19 .eff (.op 20 .loose (.op 21 .loose .nil)))))))))))))))))))))))], [], []⟩
set_option maxHeartbeats 16000000 in
set_option maxRecDepth 100000 in
theorem f9 (a : List (List Int)) (u : List Int) (b : List (List Int)) (v : List Int) (x : Int) (w : List Int)
  (ha : a.length ≤ 4611686018427387904) (ha2 : ∀ r ∈ a, r.length ≤ 4611686018427387904) (hu : u.length ≤ 4611686018427387904) (hb : b.length ≤ 4611686018427387904) (hb2 : ∀ r ∈ b, r.length ≤ 4611686018427387904) (hv : v.length ≤ 4611686018427387904) (hw : w.length ≤ 4611686018427387904) :
    ACall Try.prog 9 [.agg [.pay (.rows a) false, .pay (.ints .i64 u) false], .agg [.pay (.rows b) false, .pay (.ints .i64 v) false], .agg [.int .i64 x, .pay (.ints .i64 w) false]] (fun r objs => r = .bool true ∧ objs = []) := by
  refine acall_awp (tyP_ok _) [.tmp 6] Try.func9 rfl (by rfl) rfl ?_
  unfold Try.f9
  refine awp_cut (tyP_ok _) c9 2000 2 [3, 4, 5, 6, 7, 8] (fun g st => g = (false, 0) ∧ st = ⟨173, [(3, .fref [.pay (.rows a) false, .pay (.ints .i64 u) false]), (4, .fref [.pay (.rows b) false, .pay (.ints .i64 v) false]), (5, .fref [.int .i64 x, .pay (.ints .i64 w) false]), (6, .bool false), (7, .ref 0 0), (8, .ref 1 0)], [.box [.pay (.rows a) false], .box [.pay (.rows b) false]]⟩) (by kernel_rfl) ?_ ?_
  · simp (config := {implicitDefEqProofs := false, maxSteps := 4000000}) (disch := omega) only [push_cast, c9, Nat.reduceAdd, Nat.reduceSub, Nat.reduceMul, Nat.reduceBEq, Int.reduceToNat, Int.reduceNeg, Int.reduceLE, Int.reduceLT, Int.reduceBEq, Int.reduceBNe, Int.reduceEq, Bool.not_true, Bool.not_false, eq_self, reduceCtorEq]
  rintro _ _ ⟨rfl, rfl⟩
  refine awp_cut (tyP_ok _) c9 2000 2 [3, 4, 5, 6, 7, 8, 9, 10] (fun g st => g = (false, 0) ∧ vldB a = true ∧ vldB b = true ∧ a.length ≤ 6 ∧ (a.getD 0 []).length ≤ 3 ∧ (b.getD 0 []).length = (a.getD 0 []).length ∧ ∃ nz nz2, st = ⟨173, [(3, .fref [.pay (.rows a) false, .pay (.ints .i64 u) false]), (4, .fref [.pay (.rows b) false, .pay (.ints .i64 v) false]), (5, .fref [.int .i64 x, .pay (.ints .i64 w) false]), (6, .bool false), (7, .ref 0 0), (8, .ref 1 0), (9, .ref 2 0), (10, .ref 3 0)], [.box [.pay (.rows a) false], .box [.pay (.rows b) false], .box [.pay (.rows a) false, .pay (.rows (madeO (a.getD 0 []).length u a.length)) nz], .box [.pay (.rows b) false, .pay (.rows (madeO (b.getD 0 []).length v b.length)) nz2]]⟩) (by kernel_rfl) ?_ ?_
  · simp (config := {implicitDefEqProofs := false, maxSteps := 4000000}) (disch := omega) only [push_cast, c9, Nat.reduceAdd, Nat.reduceSub, Nat.reduceMul, Nat.reduceBEq, Int.reduceToNat, Int.reduceNeg, Int.reduceLE, Int.reduceLT, Int.reduceBEq, Int.reduceBNe, Int.reduceEq, Bool.not_true, Bool.not_false, eq_self, reduceCtorEq]
    refine callW_eq _ _ (f34 a false ha ha2) ?_
    simp (config := {implicitDefEqProofs := false, maxSteps := 4000000}) (disch := omega) only [push_cast, c9, Nat.reduceAdd, Nat.reduceSub, Nat.reduceMul, Nat.reduceBEq, Int.reduceToNat, Int.reduceNeg, Int.reduceLE, Int.reduceLT, Int.reduceBEq, Int.reduceBNe, Int.reduceEq, Bool.not_true, Bool.not_false, eq_self, reduceCtorEq]
    refine ⟨fun hva => ?_, fun hva => ?_⟩
    · refine callW_eq _ _ (f35) ?_
      simp (config := {implicitDefEqProofs := false, maxSteps := 4000000}) (disch := omega) only [push_cast, c9, Nat.reduceAdd, Nat.reduceSub, Nat.reduceMul, Nat.reduceBEq, Int.reduceToNat, Int.reduceNeg, Int.reduceLE, Int.reduceLT, Int.reduceBEq, Int.reduceBNe, Int.reduceEq, Bool.not_true, Bool.not_false, eq_self, reduceCtorEq]
    refine callW_eq _ _ (f34 b false hb hb2) ?_
    simp (config := {implicitDefEqProofs := false, maxSteps := 4000000}) (disch := omega) only [push_cast, c9, Nat.reduceAdd, Nat.reduceSub, Nat.reduceMul, Nat.reduceBEq, Int.reduceToNat, Int.reduceNeg, Int.reduceLE, Int.reduceLT, Int.reduceBEq, Int.reduceBNe, Int.reduceEq, Bool.not_true, Bool.not_false, eq_self, reduceCtorEq]
    refine ⟨fun hvb => ?_, fun hvb => ?_⟩
    · refine callW_eq _ _ (f35) ?_
      simp (config := {implicitDefEqProofs := false, maxSteps := 4000000}) (disch := omega) only [push_cast, c9, Nat.reduceAdd, Nat.reduceSub, Nat.reduceMul, Nat.reduceBEq, Int.reduceToNat, Int.reduceNeg, Int.reduceLE, Int.reduceLT, Int.reduceBEq, Int.reduceBNe, Int.reduceEq, Bool.not_true, Bool.not_false, eq_self, reduceCtorEq]
    have hVa := vldB_iff.1 hva
    have hVb := vldB_iff.1 hvb
    have h1 := hVa.n1
    have h2 := hVb.n1
    refine ⟨fun _ => ?_, fun hn6 => ⟨by omega, fun _ => ?_, fun hk3 => ⟨by omega, by omega, fun _ => ?_, fun hkk => ?_⟩⟩⟩
    · refine callW_eq _ _ (f35) ?_
      simp (config := {implicitDefEqProofs := false, maxSteps := 4000000}) (disch := omega) only [push_cast, c9, Nat.reduceAdd, Nat.reduceSub, Nat.reduceMul, Nat.reduceBEq, Int.reduceToNat, Int.reduceNeg, Int.reduceLE, Int.reduceLT, Int.reduceBEq, Int.reduceBNe, Int.reduceEq, Bool.not_true, Bool.not_false, eq_self, reduceCtorEq]
    · refine callW_eq _ _ (f35) ?_
      simp (config := {implicitDefEqProofs := false, maxSteps := 4000000}) (disch := omega) only [push_cast, c9, Nat.reduceAdd, Nat.reduceSub, Nat.reduceMul, Nat.reduceBEq, Int.reduceToNat, Int.reduceNeg, Int.reduceLE, Int.reduceLT, Int.reduceBEq, Int.reduceBNe, Int.reduceEq, Bool.not_true, Bool.not_false, eq_self, reduceCtorEq]
    · refine callW_eq _ _ (f35) ?_
      simp (config := {implicitDefEqProofs := false, maxSteps := 4000000}) (disch := omega) only [push_cast, c9, Nat.reduceAdd, Nat.reduceSub, Nat.reduceMul, Nat.reduceBEq, Int.reduceToNat, Int.reduceNeg, Int.reduceLE, Int.reduceLT, Int.reduceBEq, Int.reduceBNe, Int.reduceEq, Bool.not_true, Bool.not_false, eq_self, reduceCtorEq]
    repeat' apply And.intro
    all_goals
      refine callW_rel (f36 a false false u (a.getD 0 []).length hVa hu) ?_
      rintro R O' ⟨nz, rfl, rfl⟩
      simp (config := {implicitDefEqProofs := false, maxSteps := 4000000}) (disch := omega) only [push_cast, c9, Nat.reduceAdd, Nat.reduceSub, Nat.reduceMul, Nat.reduceBEq, Int.reduceToNat, Int.reduceNeg, Int.reduceLE, Int.reduceLT, Int.reduceBEq, Int.reduceBNe, Int.reduceEq, Bool.not_true, Bool.not_false, eq_self, reduceCtorEq]
      repeat' apply And.intro
      all_goals
        refine callW_rel (f36 b false false v (b.getD 0 []).length hVb hv) ?_
        rintro R O' ⟨nz2, rfl, rfl⟩
        simp (config := {implicitDefEqProofs := false, maxSteps := 4000000}) (disch := omega) only [push_cast, c9, Nat.reduceAdd, Nat.reduceSub, Nat.reduceMul, Nat.reduceBEq, Int.reduceToNat, Int.reduceNeg, Int.reduceLE, Int.reduceLT, Int.reduceBEq, Int.reduceBNe, Int.reduceEq, Bool.not_true, Bool.not_false, eq_self, reduceCtorEq]
        first
          | exact ⟨hva, hvb, by omega, by omega, by omega, nz, nz2, rfl, rfl⟩
          | trace_state
  rintro _ _ ⟨rfl, hva, hvb, hn6, hk3, hkk, nz, nz2, rfl⟩
  have hVa := vldB_iff.1 hva
  have hVb := vldB_iff.1 hvb
  have hMa := made_vm (outs := u) hVa
  have hMb := made_vm (outs := v) hVb
  have hol := hMa.ol
  have hol2 := hMb.ol
  have hba : (a.length ≤ 4611686018427387904 ∧ ∀ r ∈ a, r.length ≤ 4611686018427387904) ∧ (madeO (a.getD 0 []).length u a.length).length ≤ 4611686018427387904 ∧ ∀ r ∈ madeO (a.getD 0 []).length u a.length, r.length ≤ 4611686018427387904 := ⟨⟨ha, ha2⟩, by rw [madeO_len]; exact ha, fun r hr => by have := (hMa.orow r hr).1; omega⟩
  have hbb : (b.length ≤ 4611686018427387904 ∧ ∀ r ∈ b, r.length ≤ 4611686018427387904) ∧ (madeO (b.getD 0 []).length v b.length).length ≤ 4611686018427387904 ∧ ∀ r ∈ madeO (b.getD 0 []).length v b.length, r.length ≤ 4611686018427387904 := ⟨⟨hb, hb2⟩, by rw [madeO_len]; exact hb, fun r hr => by have := (hMb.orow r hr).1; have := hVb.k2; omega⟩
  generalize hO : madeO (a.getD 0 []).length u a.length = O at *
  generalize hQ : madeO (b.getD 0 []).length v b.length = Q at *
  refine awp_vc (tyP_ok _) c9 2000 (by kernel_rfl) ?_
  simp (config := {implicitDefEqProofs := false, maxSteps := 4000000}) (disch := omega) only [push_cast, c9, Nat.reduceAdd, Nat.reduceSub, Nat.reduceMul, Nat.reduceBEq, Int.reduceToNat, Int.reduceNeg, Int.reduceLE, Int.reduceLT, Int.reduceBEq, Int.reduceBNe, Int.reduceEq, Bool.not_true, Bool.not_false, eq_self, reduceCtorEq]
  refine callW_rel (f37 x 3 (by omega) (by omega)) ?_
  rintro R O' ⟨rfl, rfl⟩
  simp (config := {implicitDefEqProofs := false, maxSteps := 4000000}) (disch := omega) only [push_cast, c9, Nat.reduceAdd, Nat.reduceSub, Nat.reduceMul, Nat.reduceBEq, Int.reduceToNat, Int.reduceNeg, Int.reduceLE, Int.reduceLT, Int.reduceBEq, Int.reduceBNe, Int.reduceEq, Bool.not_true, Bool.not_false, eq_self, reduceCtorEq]
  obtain ⟨e, he⟩ : ∃ e : Nat, x % 3 = e := ⟨(x % 3).toNat, by omega⟩
  have he2 : e ≤ 2 := by omega
  rw [he]
  refine callW_rel (f20 a O false nz e hba.1.1 hba.1.2 hba.2.1 hba.2.2) ?_
  rintro R O' ⟨l, er, nz3, hS, rfl, rfl⟩
  simp (config := {implicitDefEqProofs := false, maxSteps := 4000000}) (disch := omega) only [push_cast, c9, Nat.reduceAdd, Nat.reduceSub, Nat.reduceMul, Nat.reduceBEq, Int.reduceToNat, Int.reduceNeg, Int.reduceLE, Int.reduceLT, Int.reduceBEq, Int.reduceBNe, Int.reduceEq, Bool.not_true, Bool.not_false, eq_self, reduceCtorEq]
  have hgood : (fitB a O = false ∧ er = 2 ∧ l = []) ∨ (fitB a O = true ∧ er = 0 ∧ l = onceL (sufL a O (a.getD 0 []).length e)) := by
    rcases hS with ⟨h, _⟩ | ⟨_, h, h2, h3⟩ | ⟨_, _, _, h, _⟩ | ⟨_, h, _, _, h2, h3⟩
    · rw [hMa.ok] at h; cases h
    · rcases h with h | h
      · exact .inl ⟨h, h2, h3⟩
      · exact absurd ⟨by omega, by omega⟩ h
    · have := suf_small (O := O) hVa.n1 hn6 hk3 he2
      rw [Int.toNat_natCast] at h
      omega
    · rw [Int.toNat_natCast] at h3
      exact .inr ⟨h, h2, h3⟩
  rcases hgood with ⟨hf, rfl, rfl⟩ | ⟨hf, rfl, rfl⟩
  · refine callW_eq _ _ (f38 a O false nz _ hMa hn6) ?_
    simp (config := {implicitDefEqProofs := false, maxSteps := 4000000}) (disch := omega) only [push_cast, c9, hf, Nat.reduceAdd, Nat.reduceSub, Nat.reduceMul, Nat.reduceBEq, Int.reduceToNat, Int.reduceNeg, Int.reduceLE, Int.reduceLT, Int.reduceBEq, Int.reduceBNe, Int.reduceEq, Bool.not_true, Bool.not_false, eq_self, reduceCtorEq]
    refine callW_eq _ _ (f35) ?_
    simp (config := {implicitDefEqProofs := false, maxSteps := 4000000}) (disch := omega) only [push_cast, c9, Nat.reduceAdd, Nat.reduceSub, Nat.reduceMul, Nat.reduceBEq, Int.reduceToNat, Int.reduceNeg, Int.reduceLE, Int.reduceLT, Int.reduceBEq, Int.reduceBNe, Int.reduceEq, Bool.not_true, Bool.not_false, eq_self, reduceCtorEq]
  refine callW_eq _ _ (f38 a O false nz _ hMa hn6) ?_
  simp (config := {implicitDefEqProofs := false, maxSteps := 4000000}) (disch := omega) only [push_cast, c9, hf, Nat.reduceAdd, Nat.reduceSub, Nat.reduceMul, Nat.reduceBEq, Int.reduceToNat, Int.reduceNeg, Int.reduceLE, Int.reduceLT, Int.reduceBEq, Int.reduceBNe, Int.reduceEq, Bool.not_true, Bool.not_false, eq_self, reduceCtorEq]
  refine ⟨fun hlt => ?_, fun hle => ?_⟩
  · refine callW_eq _ _ (f35) ?_
    simp (config := {implicitDefEqProofs := false, maxSteps := 4000000}) (disch := omega) only [push_cast, c9, Nat.reduceAdd, Nat.reduceSub, Nat.reduceMul, Nat.reduceBEq, Int.reduceToNat, Int.reduceNeg, Int.reduceLE, Int.reduceLT, Int.reduceBEq, Int.reduceBNe, Int.reduceEq, Bool.not_true, Bool.not_false, eq_self, reduceCtorEq]
  have hAll := fit_all hf
  have hCn : cntT a O (a.getD 0 []).length = a.length := by rw [fitB, Bool.and_eq_true, decide_eq_true_eq] at hf; exact hf.2
  have hSl : (onceL (sufL a O (a.getD 0 []).length e)).length ≤ 20000 := suf_small hVa.n1 hn6 hk3 he2
  have hSw : ∀ w ∈ onceL (sufL a O (a.getD 0 []).length e), wordB (a.getD 0 []).length w = true := fun w hw => by
    have := suf_mem hMa hAll (mem_onceL.1 hw)
    exact wordB_iff.2 ⟨by omega, this.1⟩
  generalize hSu : onceL (sufL a O (a.getD 0 []).length e) = Su at *
  refine callW_rel (f25 a O b Q false nz false nz2 Su nz3 hba hbb ⟨by omega, fun r hr => by have := (wordB_iff.1 (hSw r hr)).1; omega⟩) ?_
  rintro R O' ⟨is, er, h10, rfl, rfl⟩
  simp (config := {implicitDefEqProofs := false, maxSteps := 4000000}) (disch := omega) only [push_cast, c9, Nat.reduceAdd, Nat.reduceSub, Nat.reduceMul, Nat.reduceBEq, Int.reduceToNat, Int.reduceNeg, Int.reduceLE, Int.reduceLT, Int.reduceBEq, Int.reduceBNe, Int.reduceEq, Bool.not_true, Bool.not_false, eq_self, reduceCtorEq]
  obtain ⟨rfl, his⟩ : er = 0 ∧ is = passB a O b Q Su := by
    rcases h10 with ⟨h | h, _⟩ | ⟨_, h | h, _⟩ | ⟨_, _, _, h⟩
    · rw [hMa.ok] at h; cases h
    · rw [hMb.ok] at h; cases h
    · exact absurd hkk.symm h
    · rw [List.all_eq_true.2 hSw] at h; cases h
    · exact h
  refine callW_rel (f29 a O b Q false nz false nz2 0 0 hba.1.1 hba.1.2 hba.2.1 hba.2.2 hbb.1.1 hbb.1.2 hbb.2.1 hbb.2.2) ?_
  rintro R O' ⟨is2, w2, e2, nz4, h11, rfl, rfl⟩
  simp (config := {implicitDefEqProofs := false, maxSteps := 4000000}) (disch := omega) only [push_cast, c9, Nat.reduceAdd, Nat.reduceSub, Nat.reduceMul, Nat.reduceBEq, Int.reduceToNat, Int.reduceNeg, Int.reduceLE, Int.reduceLT, Int.reduceBEq, Int.reduceBNe, Int.reduceEq, Bool.not_true, Bool.not_false, eq_self, reduceCtorEq]
  have h1a := hVa.n1
  have h1b := hVb.n1
  rcases h11 with ⟨h, _⟩ | ⟨_, h, _⟩ | ⟨_, _, hT, rfl⟩
  · exact absurd ⟨hMa.ok, hMb.ok⟩ h
  · exact absurd ⟨⟨by omega, by omega⟩, ⟨by omega, by omega⟩, hkk.symm⟩ h
  have hMb' := hMb
  rw [hkk] at hMb'
  have hfin := suite_tells hMa hMb' hAll hCn (show b.length ≤ a.length + e by omega) hT
  rw [hSu, ← his, Bool.not_not] at hfin
  subst hfin
  refine ⟨fun h => absurd rfl h, fun _ => ⟨fun h => absurd rfl h, fun _ => ?_⟩⟩
  have hk1 := hVa.k1
  have hPw : ∀ x ∈ propW (a.getD 0 []).length w, 0 ≤ x ∧ x < (a.getD 0 []).length := propW_mem (by omega)
  have hPl : (propW (a.getD 0 []).length w).length ≤ 1000000 := by
    rw [propW, List.length_map, List.length_take]; omega
  refine callW_rel (f39 a false false w (by omega) (by omega) (by omega) hw) ?_
  rintro R O' ⟨nz5, rfl, rfl⟩
  simp (config := {implicitDefEqProofs := false, maxSteps := 4000000}) (disch := omega) only [push_cast, c9, Nat.reduceAdd, Nat.reduceSub, Nat.reduceMul, Nat.reduceBEq, Int.reduceToNat, Int.reduceNeg, Int.reduceLE, Int.reduceLT, Int.reduceBEq, Int.reduceBNe, Int.reduceEq, Bool.not_true, Bool.not_false, eq_self, reduceCtorEq]
  generalize hPg : propW (a.getD 0 []).length w = W at *
  have hfind := suite_finds hMa hMb' hAll hCn (show b.length ≤ a.length + e by omega)
  rw [hSu, ← his] at hfind
  refine ⟨fun hp => ?_, fun hp => ?_⟩
  · subst hp
    have hsame := hfind.1 rfl W hPw
    refine callW_rel (f41 a O false nz nz5 0 W _ hMa ⟨by omega, by omega⟩ hPw hPl) ?_
    rintro R O' ⟨nz6, rfl, rfl⟩
    simp (config := {implicitDefEqProofs := false, maxSteps := 4000000}) (disch := omega) only [push_cast, c9, Nat.reduceAdd, Nat.reduceSub, Nat.reduceMul, Nat.reduceBEq, Int.reduceToNat, Int.reduceNeg, Int.reduceLE, Int.reduceLT, Int.reduceBEq, Int.reduceBNe, Int.reduceEq, Bool.not_true, Bool.not_false, eq_self, reduceCtorEq]
    refine callW_rel (f41 b Q false nz2 nz5 0 W _ hMb' ⟨by omega, by omega⟩ hPw hPl) ?_
    rintro R O' ⟨nz7, rfl, rfl⟩
    simp (config := {implicitDefEqProofs := false, maxSteps := 4000000}) (disch := omega) only [push_cast, c9, Nat.reduceAdd, Nat.reduceSub, Nat.reduceMul, Nat.reduceBEq, Int.reduceToNat, Int.reduceNeg, Int.reduceLE, Int.reduceLT, Int.reduceBEq, Int.reduceBNe, Int.reduceEq, Bool.not_true, Bool.not_false, eq_self, reduceCtorEq]
    refine callW_eq _ _ (f40 (outsG a O 0 W) (outsG b Q 0 W) nz6 nz7 (by rw [outsG_len]; omega)) ?_
    simp (config := {implicitDefEqProofs := false, maxSteps := 4000000}) (disch := omega) only [push_cast, c9, Nat.reduceAdd, Nat.reduceSub, Nat.reduceMul, Nat.reduceBEq, Int.reduceToNat, Int.reduceNeg, Int.reduceLE, Int.reduceLT, Int.reduceBEq, Int.reduceBNe, Int.reduceEq, Bool.not_true, Bool.not_false, eq_self, reduceCtorEq]
    refine ⟨fun _ => ?_, fun h => absurd hsame h⟩
    refine callW_eq _ _ (f35) ?_
    simp (config := {implicitDefEqProofs := false, maxSteps := 4000000}) (disch := omega) only [push_cast, c9, Nat.reduceAdd, Nat.reduceSub, Nat.reduceMul, Nat.reduceBEq, Int.reduceToNat, Int.reduceNeg, Int.reduceLE, Int.reduceLT, Int.reduceBEq, Int.reduceBNe, Int.reduceEq, Bool.not_true, Bool.not_false, eq_self, reduceCtorEq]
  · subst hp
    refine awp_upd (tyP_ok _) c9 2000 [6, 7, 8, 9, 10, 12, 19] (Su.length) (fun i => ∀ j, j < i → outsG a O 0 (Su.getD j []) = outsG b Q 0 (Su.getD j [])) (fun i => [(19, .int .i64 i)]) (fun i => []) (by kernel_rfl) rfl ?_ ?_
    · exact fun j h => by omega
    intro i hi hr
    simp (config := {implicitDefEqProofs := false, maxSteps := 4000000}) (disch := omega) only [push_cast, c9, Nat.reduceAdd, Nat.reduceSub, Nat.reduceMul, Nat.reduceBEq, Int.reduceToNat, Int.reduceNeg, Int.reduceLE, Int.reduceLT, Int.reduceBEq, Int.reduceBNe, Int.reduceEq, Bool.not_true, Bool.not_false, eq_self, reduceCtorEq]
    refine ⟨fun hlt => ⟨hlt, ?_⟩, fun hge => ?_⟩
    · have hin : Su.getD i [] ∈ Su := getD_mem' hlt
      have hwo := wordB_iff.1 (hSw _ hin)
      have hl6 : (Su.getD i []).length ≤ 1000000 := by omega
      refine callW_eq _ _ (f42 a false false (Su.getD i []) (by omega) (by omega)) ?_
      simp (config := {implicitDefEqProofs := false, maxSteps := 4000000}) (disch := omega) only [push_cast, c9, hSw _ hin, Nat.reduceAdd, Nat.reduceSub, Nat.reduceMul, Nat.reduceBEq, Int.reduceToNat, Int.reduceNeg, Int.reduceLE, Int.reduceLT, Int.reduceBEq, Int.reduceBNe, Int.reduceEq, Bool.not_true, Bool.not_false, eq_self, reduceCtorEq]
      refine ⟨hlt, hlt, ?_⟩
      refine callW_rel (f41 a O false nz false 0 (Su.getD i []) _ hMa ⟨by omega, by omega⟩ hwo.2 hl6) ?_
      rintro R O' ⟨nz6, rfl, rfl⟩
      simp (config := {implicitDefEqProofs := false, maxSteps := 4000000}) (disch := omega) only [push_cast, c9, Nat.reduceAdd, Nat.reduceSub, Nat.reduceMul, Nat.reduceBEq, Int.reduceToNat, Int.reduceNeg, Int.reduceLE, Int.reduceLT, Int.reduceBEq, Int.reduceBNe, Int.reduceEq, Bool.not_true, Bool.not_false, eq_self, reduceCtorEq]
      try refine ⟨hlt, ?_⟩
      refine callW_rel (f41 b Q false nz2 false 0 (Su.getD i []) _ hMb' ⟨by omega, by omega⟩ hwo.2 hl6) ?_
      rintro R O' ⟨nz7, rfl, rfl⟩
      simp (config := {implicitDefEqProofs := false, maxSteps := 4000000}) (disch := omega) only [push_cast, c9, Nat.reduceAdd, Nat.reduceSub, Nat.reduceMul, Nat.reduceBEq, Int.reduceToNat, Int.reduceNeg, Int.reduceLE, Int.reduceLT, Int.reduceBEq, Int.reduceBNe, Int.reduceEq, Bool.not_true, Bool.not_false, eq_self, reduceCtorEq]
      refine callW_eq _ _ (f40 (outsG a O 0 (Su.getD i [])) (outsG b Q 0 (Su.getD i [])) nz6 nz7 (by rw [outsG_len]; omega)) ?_
      simp (config := {implicitDefEqProofs := false, maxSteps := 4000000}) (disch := omega) only [push_cast, c9, Nat.reduceAdd, Nat.reduceSub, Nat.reduceMul, Nat.reduceBEq, Int.reduceToNat, Int.reduceNeg, Int.reduceLE, Int.reduceLT, Int.reduceBEq, Int.reduceBNe, Int.reduceEq, Bool.not_true, Bool.not_false, eq_self, reduceCtorEq]
      refine ⟨fun hne => ?_, fun heq => ?_⟩
      · refine callW_eq _ _ (f35) ?_
        simp (config := {implicitDefEqProofs := false, maxSteps := 4000000}) (disch := omega) only [push_cast, c9, Nat.reduceAdd, Nat.reduceSub, Nat.reduceMul, Nat.reduceBEq, Int.reduceToNat, Int.reduceNeg, Int.reduceLE, Int.reduceLT, Int.reduceBEq, Int.reduceBNe, Int.reduceEq, Bool.not_true, Bool.not_false, eq_self, reduceCtorEq]
      · exact ⟨hlt, upto_succ hr heq⟩
    · have hpa : passB a O b Q Su = true := by
        rw [passB, List.all_eq_true]
        intro p hp
        obtain ⟨j, hj, rfl⟩ := mem_at hp
        exact decide_eq_true (hr j (by omega))
      rw [hpa] at his
      cases his
theorem lawTopBehind (a : List (List Int)) (u : List Int) (b : List (List Int)) (v : List Int) (x : Int) (w : List Int)
  (ha : a.length ≤ 4611686018427387904) (ha2 : ∀ r ∈ a, r.length ≤ 4611686018427387904) (hu : u.length ≤ 4611686018427387904) (hb : b.length ≤ 4611686018427387904) (hb2 : ∀ r ∈ b, r.length ≤ 4611686018427387904) (hv : v.length ≤ 4611686018427387904) (hw : w.length ≤ 4611686018427387904) :
    ACall Try.prog 9 [.agg [.pay (.rows a) false, .pay (.ints .i64 u) false], .agg [.pay (.rows b) false, .pay (.ints .i64 v) false], .agg [.int .i64 x, .pay (.ints .i64 w) false]] (fun r objs => r = .bool true ∧ objs = []) :=
  f9 a u b v x w ha ha2 hu hb hb2 hv hw
end Go.AM
end

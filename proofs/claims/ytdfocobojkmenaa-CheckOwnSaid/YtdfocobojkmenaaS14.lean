/-
  Contracts of told and CheckOwn; conditions in each statement.
-/
import Derived.Test.YtdfocobojkmenaaS12
import Derived.Test.YtdfocobojkmenaaP6
import Derived.Test.YtdfocobojkmenaaP7
set_option linter.unusedVariables false
set_option linter.unusedSimpArgs false
set_option linter.unusedSectionVars false
set_option linter.unnecessarySimpa false

/-! text Uk31 -/
section
namespace Go.AM
open Go Go.Proofs Go.Sort
theorem fit_cnt {N O : List (List Int)} (hf : fitB N O = true) : cntT N O (N.getD 0 []).length = N.length := by
  rw [fitB, Bool.and_eq_true, decide_eq_true_eq] at hf; exact hf.2
theorem eb {k : Nat} {N O : List (List Int)} (h : VM N O k) : (N.length ≤ 4611686018427387904 ∧ ∀ r ∈ N, r.length ≤ 4611686018427387904) ∧ O.length ≤ 4611686018427387904 ∧ ∀ r ∈ O, r.length ≤ 4611686018427387904 := by
  have h1 := h.v.n2
  have h2 := h.v.k2
  have h3 := h.ol
  exact ⟨⟨by omega, fun r hr => by have := (h.v.row r hr).1; omega⟩, by omega, fun r hr => by have := (h.orow r hr).1; omega⟩
theorem ask_tel {N O l l2 : List (List Int)} {e e2 : Int} (h : AskR N O l e) (h2 : TelR N O l2 e2) : (e ≠ 0 ∧ e2 = e) ∨ (vmB N O = true ∧ fitB N O = true ∧ e = 0 ∧ e2 = 0 ∧ l = covL N (N.getD 0 []).length ∧ l2 = telL N O (N.getD 0 []).length) := by
  rcases h with ⟨h, h3, _⟩ | ⟨h, h4, h3, _⟩ | ⟨h, h4, h3, h5⟩
  · left
    obtain ⟨h6, _⟩ := bad_tel h2 h
    exact ⟨by omega, by omega⟩
  · left
    obtain ⟨h6, _⟩ := unf_tel h2 h h4
    exact ⟨by omega, by omega⟩
  · right
    obtain ⟨h6, h7⟩ := fit_tel h2 h h4
    exact ⟨h, h4, h3, h6, h5, h7⟩
/- mizmaze/mizmazelaw09.told -/
def c33 : VCfg := ⟨⟨[], [], [], [0, 1, 2, 3, 4, 8, 9, 10, 12, 13, 15, 19, 55]⟩, [(4, (.op 0 .loose (.op 1 .loose (.op 2 .loose (.op 3 .loose (.op 4 .loose (.op 5 .loose (.op 6 .eff (.op 7 .loose (.op 8 .loose (.op 9 .loose (.op 10 .loose (.op 11 .loose (.op 12 .loose (.op 13 .loose .nil))))))))))))))), (5, (.op 0 .loose (.op 1 .loose (.op 2 .loose (.op 3 .loose (.op 4 .loose (.op 5 .loose (.op 6 .eff (.op 7 .loose (.op 8 .loose (.op 9 .loose (.op 10 .loose (.op 11 .loose (.op 12 .loose (.op 13 .loose .nil)))))))))))))))], [], []⟩
set_option maxHeartbeats 4000000 in
set_option maxRecDepth 100000 in
theorem f33 (N O : List (List Int)) (z z' u : Bool) (s t : Int) (L : List (List Int)) (hb : (N.length ≤ 4611686018427387904 ∧ ∀ r ∈ N, r.length ≤ 4611686018427387904) ∧ O.length ≤ 4611686018427387904 ∧ ∀ r ∈ O, r.length ≤ 4611686018427387904) (hv : vmB N O = true) (hs : 0 ≤ s ∧ s < N.length) (ht : 0 ≤ t ∧ t < N.length) (hL : L.length ≤ 1000000) (hLw : ∀ w ∈ L, wordB (N.getD 0 []).length w = true) :
    ACall Try.prog 33 [.agg [.pay (.rows (N)) (z), .pay (.rows (O)) (z')], .int .i64 s, .int .i64 t, .pay (.rows L) u] (fun r objs => ∃ b, r = .bool b ∧ ((∃ w ∈ L, outsG N O s w ≠ outsG N O t w) → b = true) ∧ objs = []) := by
  refine acall_intro (tyP_ok _) c33 2000 [.tmp 8] Try.func33 rfl (by rfl) rfl (by kernel_rfl) ?_
  unfold Try.f33
  simp (config := {implicitDefEqProofs := false, maxSteps := 4000000}) (disch := omega) only [push_cast, c33, Nat.reduceAdd, Nat.reduceSub, Nat.reduceMul, Nat.reduceBEq, Int.reduceToNat, Int.reduceNeg, Int.reduceLE, Int.reduceLT, Int.reduceBEq, Int.reduceBNe, Int.reduceEq, Bool.not_true, Bool.not_false, eq_self, reduceCtorEq]
  refine awp_upto (tyP_ok _) c33 2000 [1, 2, 3, 4, 8, 9] (L.length) (fun i => ∀ j, j < i → outsG N O s (L.getD j []) = outsG N O t (L.getD j [])) (fun i => ⟨56, [(1, .int .i64 s), (2, .int .i64 t), (3, .pay (.rows L) u), (4, .fref [.pay (.rows N) z, .pay (.rows O) z']), (8, .bool false), (9, .int .i64 i)], []⟩) (by kernel_rfl) ?_ ?_ ?_
  · simp (config := {implicitDefEqProofs := false, maxSteps := 4000000}) (disch := omega) only [push_cast, c33, Nat.reduceAdd, Nat.reduceSub, Nat.reduceMul, Nat.reduceBEq, Int.reduceToNat, Int.reduceNeg, Int.reduceLE, Int.reduceLT, Int.reduceBEq, Int.reduceBNe, Int.reduceEq, Bool.not_true, Bool.not_false, eq_self, reduceCtorEq]
  · exact fun j hj => by omega
  intro i hi hp
  simp (config := {implicitDefEqProofs := false, maxSteps := 4000000}) (disch := omega) only [push_cast, c33, Nat.reduceAdd, Nat.reduceSub, Nat.reduceMul, Nat.reduceBEq, Int.reduceToNat, Int.reduceNeg, Int.reduceLE, Int.reduceLT, Int.reduceBEq, Int.reduceBNe, Int.reduceEq, Bool.not_true, Bool.not_false, eq_self, reduceCtorEq]
  refine ⟨fun hlt => ⟨hlt, ?_⟩, fun hge => ⟨false, rfl, fun ⟨w, hw, hne⟩ => ?_⟩⟩
  · have hwi := hLw (L.getD i []) (by rw [List.getD_eq_getElem?_getD, List.getElem?_eq_getElem hlt]; exact List.getElem_mem _)
    have hw4 := (wordB_iff.1 hwi).1
    refine callW_rel (f32 N O z z' false s (L.getD i []) hb.1.1 hb.1.2 hb.2.1 hb.2.2 (by omega)) ?_
    rintro R O' ⟨out, t1, e, h1, rfl, rfl⟩
    simp (config := {implicitDefEqProofs := false, maxSteps := 4000000}) (disch := omega) only [push_cast, c33, Nat.reduceAdd, Nat.reduceSub, Nat.reduceMul, Nat.reduceBEq, Int.reduceToNat, Int.reduceNeg, Int.reduceLE, Int.reduceLT, Int.reduceBEq, Int.reduceBNe, Int.reduceEq, Bool.not_true, Bool.not_false, eq_self, reduceCtorEq]
    obtain ⟨rfl, rfl, rfl⟩ := h1.ok hv ⟨hs, hwi⟩
    refine ⟨hlt, ?_⟩
    refine callW_rel (f32 N O z z' false t (L.getD i []) hb.1.1 hb.1.2 hb.2.1 hb.2.2 (by omega)) ?_
    rintro R O' ⟨out, t1, e, h2, rfl, rfl⟩
    simp (config := {implicitDefEqProofs := false, maxSteps := 4000000}) (disch := omega) only [push_cast, c33, Nat.reduceAdd, Nat.reduceSub, Nat.reduceMul, Nat.reduceBEq, Int.reduceToNat, Int.reduceNeg, Int.reduceLE, Int.reduceLT, Int.reduceBEq, Int.reduceBNe, Int.reduceEq, Bool.not_true, Bool.not_false, eq_self, reduceCtorEq]
    obtain ⟨rfl, rfl, rfl⟩ := h2.ok hv ⟨ht, hwi⟩
    refine ⟨fun _ => ?_, fun h => absurd rfl h⟩
    have hol := outsG_len N O (L.getD i []) s
    refine callW_eq _ _ (f23 (outsG N O s (L.getD i [])) (outsG N O t (L.getD i [])) true true (by omega)) ?_
    simp (config := {implicitDefEqProofs := false, maxSteps := 4000000}) (disch := omega) only [push_cast, c33, Nat.reduceAdd, Nat.reduceSub, Nat.reduceMul, Nat.reduceBEq, Int.reduceToNat, Int.reduceNeg, Int.reduceLE, Int.reduceLT, Int.reduceBEq, Int.reduceBNe, Int.reduceEq, Bool.not_true, Bool.not_false, eq_self, reduceCtorEq]
    exact ⟨fun hne => ⟨true, rfl, fun _ => rfl⟩, fun heq => ⟨hlt, upto_succ hp heq⟩⟩
  · exfalso
    obtain ⟨p, hp1, rfl⟩ := mem_at hw
    exact hne (hp p (by omega))
/-- the minimal machine has the same outputs from its first state -/
theorem min_zero {N O : List (List Int)} {k : Nat} (hV : VM N O k) : atC (clsT N O k) 0 = 0 := by
  rw [cls_at (by have := hV.v.n1; omega)]
  have : fstF (clE N O k) 0 = 0 := by have := fstF_le (clE N O k) 0; omega
  rw [numF, this]; rfl
theorem pass_self (N O words : List (List Int)) : passB N O N O words = true := by simp [passB]
theorem pass_min {N O words : List (List Int)} {k : Nat} (hV : VM N O k) (hw : ∀ w ∈ words, wordB k w = true) : passB N O (minN N O k) (minO N O k) words = true := by
  rw [passB, List.all_eq_true]
  intro w h
  have h1 := outs_min hV w (s := 0) (by have := hV.v.n1; omega) (wordB_iff.1 (hw w h)).2
  rw [min_zero hV] at h1
  exact decide_eq_true h1.symm
theorem PassR.ok {N O M Q words : List (List Int)} {is : Bool} {e : Int} (h : PassR N O M Q words is e) (h1 : vmB N O = true) (h2 : vmB M Q = true) (h3 : (N.getD 0 []).length = (M.getD 0 []).length) (h4 : ∀ w ∈ words, wordB (N.getD 0 []).length w = true) : e = 0 ∧ is = passB N O M Q words := by
  rcases h with ⟨h | h, _⟩ | ⟨_, h | h, _⟩ | ⟨_, _, _, h⟩
  · rw [h1] at h; cases h
  · rw [h2] at h; cases h
  · exact absurd h3 h
  · rw [List.all_eq_true.2 h4] at h; cases h
  · exact h
/- mizmaze/mizmazelaw09.CheckOwn -/
def c8 : VCfg := ⟨⟨[], [], [], [0, 1, 2, 3, 6, 7, 8, 9, 10, 11, 12, 13, 14, 15, 16, 17, 18, 19, 20, 21, 23, 24, 25, 27, 28, 36, 61, 71, 117, 133, 145, 150, 169, 172, 180, 189]⟩, [(24, (.op 0 .loose (.op 1 .loose (.op 2 .loose (.op 3 .loose (.op 4 .loose (.op 5 .eff (.op 6 .loose (.op 7 .loose (.op 8 .loose (.op 9 .loose (.op 10 .loose (.op 11 .loose (.op 12 .loose .nil))))))))))))))], [], []⟩
set_option maxHeartbeats 16000000 in
set_option maxRecDepth 100000 in
theorem f8 (N O : List (List Int)) (words : List (List Int)) (sh : List Int) (hl : N.length ≤ 4611686018427387904) (hl2 : O.length ≤ 4611686018427387904) (hwl : words.length ≤ 17592186044416) (hww : ∀ r ∈ words, r.length ≤ 17592186044416) (hsh : sh.length ≤ 4611686018427387904) :
    ACall Try.prog 8 [.agg [.pay (.rows (N)) (false), .pay (.rows (O)) (false)], .pay (.rows words) false, .pay (.ints .i64 sh) false] (fun r objs => r = .bool true ∧ objs = []) := by
  refine acall_intro (tyP_ok _) c8 2000 [.tmp 6] Try.func8 rfl (by rfl) rfl (by kernel_rfl) ?_
  unfold Try.f8
  simp (config := {implicitDefEqProofs := false, maxSteps := 4000000}) (disch := omega) only [push_cast, c8, Nat.reduceAdd, Nat.reduceSub, Nat.reduceMul, Nat.reduceBEq, Int.reduceToNat, Int.reduceNeg, Int.reduceLE, Int.reduceLT, Int.reduceBEq, Int.reduceBNe, Int.reduceEq, Bool.not_true, Bool.not_false, eq_self, reduceCtorEq]
  refine awp_upto (tyP_ok _) c8 2000 [1, 2, 3, 6, 7, 8] (words.length) (fun i => i ≤ 101) (fun i => ⟨212, [(1, .pay (.rows words) false), (2, .pay (.ints .i64 sh) false), (3, .fref [.pay (.rows N) false, .pay (.rows O) false]), (6, .bool false), (7, .int .i64 (sumL words i)), (8, .int .i64 i)], []⟩) (by kernel_rfl) ?_ ?_ ?_
  · simp (config := {implicitDefEqProofs := false, maxSteps := 4000000}) (disch := omega) only [push_cast, c8, Nat.reduceAdd, Nat.reduceSub, Nat.reduceMul, Nat.reduceBEq, Int.reduceToNat, Int.reduceNeg, Int.reduceLE, Int.reduceLT, Int.reduceBEq, Int.reduceBNe, Int.reduceEq, Bool.not_true, Bool.not_false, eq_self, reduceCtorEq]
    rfl
  · omega
  intro i hi hi2
  have hsl := sumL_le hww i
  have hsl2 := sumL_le hww (i + 1)
  have hse : sumL words (i + 1) = sumL words i + (words.getD i []).length := rfl
  simp (config := {implicitDefEqProofs := false, maxSteps := 4000000}) (disch := omega) only [push_cast, c8, Nat.reduceAdd, Nat.reduceSub, Nat.reduceMul, Nat.reduceBEq, Int.reduceToNat, Int.reduceNeg, Int.reduceLE, Int.reduceLT, Int.reduceBEq, Int.reduceBNe, Int.reduceEq, Bool.not_true, Bool.not_false, eq_self, reduceCtorEq]
  refine ⟨fun hlt => ⟨fun hle => ⟨hlt, hlt, by omega, by omega⟩, fun hgt => ?_⟩, fun hge => ?_⟩
  · refine callW_rel (f10 N O false false hl hl2) ?_
    rintro R O' ⟨b, rfl, hb, rfl⟩
    simp (config := {implicitDefEqProofs := false, maxSteps := 4000000}) (disch := omega) only [push_cast, c8, Nat.reduceAdd, Nat.reduceSub, Nat.reduceMul, Nat.reduceBEq, Int.reduceToNat, Int.reduceNeg, Int.reduceLE, Int.reduceLT, Int.reduceBEq, Int.reduceBNe, Int.reduceEq, Bool.not_true, Bool.not_false, eq_self, reduceCtorEq]
    refine ⟨fun h => ?_, fun h => ?_⟩
    · refine callW_eq _ _ (f11) ?_
      simp (config := {implicitDefEqProofs := false, maxSteps := 4000000}) (disch := omega) only [push_cast, c8, Nat.reduceAdd, Nat.reduceSub, Nat.reduceMul, Nat.reduceBEq, Int.reduceToNat, Int.reduceNeg, Int.reduceLE, Int.reduceLT, Int.reduceBEq, Int.reduceBNe, Int.reduceEq, Bool.not_true, Bool.not_false, eq_self, reduceCtorEq]
    refine ⟨fun _ => ?_, fun h => by omega⟩
    refine callW_eq _ _ (f11) ?_
    simp (config := {implicitDefEqProofs := false, maxSteps := 4000000}) (disch := omega) only [push_cast, c8, Nat.reduceAdd, Nat.reduceSub, Nat.reduceMul, Nat.reduceBEq, Int.reduceToNat, Int.reduceNeg, Int.reduceLE, Int.reduceLT, Int.reduceBEq, Int.reduceBNe, Int.reduceEq, Bool.not_true, Bool.not_false, eq_self, reduceCtorEq]
  have hie : i = words.length := by omega
  subst hie
  refine callW_rel (f10 N O false false hl hl2) ?_
  rintro R O' ⟨b, rfl, hb, rfl⟩
  simp (config := {implicitDefEqProofs := false, maxSteps := 4000000}) (disch := omega) only [push_cast, c8, Nat.reduceAdd, Nat.reduceSub, Nat.reduceMul, Nat.reduceBEq, Int.reduceToNat, Int.reduceNeg, Int.reduceLE, Int.reduceLT, Int.reduceBEq, Int.reduceBNe, Int.reduceEq, Bool.not_true, Bool.not_false, eq_self, reduceCtorEq]
  refine ⟨fun h => ?_, fun h => ?_⟩
  · refine callW_eq _ _ (f11) ?_
    simp (config := {implicitDefEqProofs := false, maxSteps := 4000000}) (disch := omega) only [push_cast, c8, Nat.reduceAdd, Nat.reduceSub, Nat.reduceMul, Nat.reduceBEq, Int.reduceToNat, Int.reduceNeg, Int.reduceLE, Int.reduceLT, Int.reduceBEq, Int.reduceBNe, Int.reduceEq, Bool.not_true, Bool.not_false, eq_self, reduceCtorEq]
  have hb := nb (hb h)
  refine ⟨fun _ => ?_, fun hw100 => ⟨fun _ => ?_, fun hs50 => ⟨fun _ => ?_, fun hs10 => ?_⟩⟩⟩
  · refine callW_eq _ _ (f11) ?_
    simp (config := {implicitDefEqProofs := false, maxSteps := 4000000}) (disch := omega) only [push_cast, c8, Nat.reduceAdd, Nat.reduceSub, Nat.reduceMul, Nat.reduceBEq, Int.reduceToNat, Int.reduceNeg, Int.reduceLE, Int.reduceLT, Int.reduceBEq, Int.reduceBNe, Int.reduceEq, Bool.not_true, Bool.not_false, eq_self, reduceCtorEq]
  · refine callW_eq _ _ (f11) ?_
    simp (config := {implicitDefEqProofs := false, maxSteps := 4000000}) (disch := omega) only [push_cast, c8, Nat.reduceAdd, Nat.reduceSub, Nat.reduceMul, Nat.reduceBEq, Int.reduceToNat, Int.reduceNeg, Int.reduceLE, Int.reduceLT, Int.reduceBEq, Int.reduceBNe, Int.reduceEq, Bool.not_true, Bool.not_false, eq_self, reduceCtorEq]
  · refine callW_eq _ _ (f11) ?_
    simp (config := {implicitDefEqProofs := false, maxSteps := 4000000}) (disch := omega) only [push_cast, c8, Nat.reduceAdd, Nat.reduceSub, Nat.reduceMul, Nat.reduceBEq, Int.reduceToNat, Int.reduceNeg, Int.reduceLE, Int.reduceLT, Int.reduceBEq, Int.reduceBNe, Int.reduceEq, Bool.not_true, Bool.not_false, eq_self, reduceCtorEq]
  have hwm := fun w (h : w ∈ words) => sumL_mem h
  have hwB : words.length ≤ 4611686018427387904 ∧ ∀ r ∈ words, r.length ≤ 4611686018427387904 := ⟨by omega, fun r hr => by have := hwm r hr; omega⟩
  refine callW_rel (f25 N O N O false false false false words false hb hb hwB) ?_
  rintro R O' ⟨is, e, h9, rfl, rfl⟩
  simp (config := {implicitDefEqProofs := false, maxSteps := 4000000}) (disch := omega) only [push_cast, c8, Nat.reduceAdd, Nat.reduceSub, Nat.reduceMul, Nat.reduceBEq, Int.reduceToNat, Int.reduceNeg, Int.reduceLE, Int.reduceLT, Int.reduceBEq, Int.reduceBNe, Int.reduceEq, Bool.not_true, Bool.not_false, eq_self, reduceCtorEq]
  refine ⟨fun he => ?_, fun he => ?_⟩
  · subst he
    obtain ⟨hv, hk, hwd, his⟩ : vmB N O = true ∧ True ∧ (∀ w ∈ words, wordB (N.getD 0 []).length w = true) ∧ is = true := by
      rcases h9 with ⟨_, h, _⟩ | ⟨_, _, h, _⟩ | ⟨h1, _, h2, _, h3⟩
      · cases h
      · cases h
      · exact ⟨h1.1, trivial, List.all_eq_true.1 h2, by rw [h3, pass_self]⟩
    subst his
    have hV := vmB_iff.1 hv
    have hn1 := hV.v.n1
    refine callW_rel (f30 N O false false hb.1.1 hb.1.2 hb.2.1 hb.2.2) ?_
    rintro R O' ⟨A, B, e, nz3, nz4, hm, rfl, rfl⟩
    simp (config := {implicitDefEqProofs := false, maxSteps := 4000000}) (disch := omega) only [push_cast, c8, Nat.reduceAdd, Nat.reduceSub, Nat.reduceMul, Nat.reduceBEq, Int.reduceToNat, Int.reduceNeg, Int.reduceLE, Int.reduceLT, Int.reduceBEq, Int.reduceBNe, Int.reduceEq, Bool.not_true, Bool.not_false, eq_self, reduceCtorEq]
    rcases hm with ⟨h, _⟩ | ⟨_, rfl, rfl, rfl⟩
    · rw [hv] at h; cases h
    have hVm := min_vm hV
    have hmv : vmB (minN N O (N.getD 0 []).length) (minO N O (N.getD 0 []).length) = true := hVm.ok
    have hbm := eb hVm
    refine callW_rel (f25 N O _ _ false false nz3 nz4 words false hb hbm hwB) ?_
    rintro R O' ⟨is2, e, h10, rfl, rfl⟩
    simp (config := {implicitDefEqProofs := false, maxSteps := 4000000}) (disch := omega) only [push_cast, c8, Nat.reduceAdd, Nat.reduceSub, Nat.reduceMul, Nat.reduceBEq, Int.reduceToNat, Int.reduceNeg, Int.reduceLE, Int.reduceLT, Int.reduceBEq, Int.reduceBNe, Int.reduceEq, Bool.not_true, Bool.not_false, eq_self, reduceCtorEq]
    obtain ⟨rfl, rfl⟩ := h10.ok hv hmv hVm.k0.symm hwd
    rw [pass_min hV hwd]
    refine callW_rel (f31 N O false false hb.1.1 hb.1.2 hb.2.1 hb.2.2) ?_
    rintro R O' ⟨c, e, hcl, rfl, rfl⟩
    simp (config := {implicitDefEqProofs := false, maxSteps := 4000000}) (disch := omega) only [push_cast, c8, Nat.reduceAdd, Nat.reduceSub, Nat.reduceMul, Nat.reduceBEq, Int.reduceToNat, Int.reduceNeg, Int.reduceLE, Int.reduceLT, Int.reduceBEq, Int.reduceBNe, Int.reduceEq, Bool.not_true, Bool.not_false, eq_self, reduceCtorEq]
    rcases hcl with ⟨h, _⟩ | ⟨_, rfl, rfl⟩
    · rw [hv] at h; cases h
    have hc0 : (clsT N O (N.getD 0 []).length).getD 0 0 = 0 := min_zero hV
    refine ⟨fun h => absurd rfl h, fun _ => ⟨fun h => (by rw [clsT_len] at h; omega), fun _ => ⟨by rw [clsT_len]; omega, fun h => absurd hc0 h, fun _ => ?_⟩⟩⟩
    clear h10 hVm hmv hbm hc0 hwd
    refine callW_rel (f12 N O false false hb.1.1 hb.1.2 hb.2.1 hb.2.2) ?_
    rintro R O' ⟨cv, e1, nz1, hc1, rfl, rfl⟩
    simp (config := {implicitDefEqProofs := false, maxSteps := 4000000}) (disch := omega) only [push_cast, c8, Nat.reduceAdd, Nat.reduceSub, Nat.reduceMul, Nat.reduceBEq, Int.reduceToNat, Int.reduceNeg, Int.reduceLE, Int.reduceLT, Int.reduceBEq, Int.reduceBNe, Int.reduceEq, Bool.not_true, Bool.not_false, eq_self, reduceCtorEq]
    refine callW_rel (f13 N O false false hb.1.1 hb.1.2 hb.2.1 hb.2.2) ?_
    rintro R O' ⟨tl, e2, nz2, hc2, rfl, rfl⟩
    simp (config := {implicitDefEqProofs := false, maxSteps := 4000000}) (disch := omega) only [push_cast, c8, Nat.reduceAdd, Nat.reduceSub, Nat.reduceMul, Nat.reduceBEq, Int.reduceToNat, Int.reduceNeg, Int.reduceLE, Int.reduceLT, Int.reduceBEq, Int.reduceBNe, Int.reduceEq, Bool.not_true, Bool.not_false, eq_self, reduceCtorEq]
    rcases ask_tel hc1 hc2 with ⟨hne, rfl⟩ | ⟨hv0, hf, rfl, rfl, rfl, rfl⟩
    · refine ⟨fun _ => ⟨fun _ => ?_, fun h => absurd rfl h⟩, fun h => absurd h hne⟩
      refine callW_eq _ _ (f11) ?_
      simp (config := {implicitDefEqProofs := false, maxSteps := 4000000}) (disch := omega) only [push_cast, c8, Nat.reduceAdd, Nat.reduceSub, Nat.reduceMul, Nat.reduceBEq, Int.reduceToNat, Int.reduceNeg, Int.reduceLE, Int.reduceLT, Int.reduceBEq, Int.reduceBNe, Int.reduceEq, Bool.not_true, Bool.not_false, eq_self, reduceCtorEq]
    have hV0 := vmB_iff.1 hv0
    have hn10 := hV0.v.n1
    have hn20 := hV0.v.n2
    have hAll := fit_all hf
    have hCn := fit_cnt hf
    have hcl0 : (covL N (N.getD 0 []).length).length = N.length := cov_len
    have hcw := fun s (hs : s < N.length) => cov_spec hV0 hAll (t := (s : Int)) ⟨by omega, by omega⟩
    have hcm := fun w h => covL_mem hV0 hAll (w := w) h
    have hTl := telL_len hV0
    have hTw : ∀ w ∈ telL N O (N.getD 0 []).length, wordB (N.getD 0 []).length w = true := fun w h => by
      have := telL_mem hV0 h
      exact wordB_iff.2 ⟨by omega, this.1⟩
    have hTt := fun s t (h1 : t < s) (h2 : s < N.length) => tel_tells hV0 hCn h1 h2
    have hcs := fun w h => cov_short hV0 (w := w) h
    generalize hCV : covL N (N.getD 0 []).length = CV at *
    generalize hTL : telL N O (N.getD 0 []).length = TL at *
    refine ⟨fun h => absurd rfl h, fun _ => ⟨fun h => absurd rfl h, fun _ => ⟨fun h => absurd hcl0 h, fun _ => ?_⟩⟩⟩
    refine awp_upto (tyP_ok _) c8 2000 [2, 3, 6, 17, 19, 21] (N.length) (fun _ => True) (fun s => ⟨212, [(2, .pay (.ints .i64 sh) false), (3, .fref [.pay (.rows N) false, .pay (.rows O) false]), (6, .bool false), (17, .pay (.rows CV) nz1), (19, .pay (.rows TL) nz2), (21, .int .i64 s)], []⟩) (by kernel_rfl) ?_ ?_ ?_
    · simp (config := {implicitDefEqProofs := false, maxSteps := 4000000}) (disch := omega) only [push_cast, c8, Nat.reduceAdd, Nat.reduceSub, Nat.reduceMul, Nat.reduceBEq, Int.reduceToNat, Int.reduceNeg, Int.reduceLE, Int.reduceLT, Int.reduceBEq, Int.reduceBNe, Int.reduceEq, Bool.not_true, Bool.not_false, eq_self, reduceCtorEq]
    · trivial
    intro s hs _
    simp (config := {implicitDefEqProofs := false, maxSteps := 4000000}) (disch := omega) only [push_cast, c8, Nat.reduceAdd, Nat.reduceSub, Nat.reduceMul, Nat.reduceBEq, Int.reduceToNat, Int.reduceNeg, Int.reduceLE, Int.reduceLT, Int.reduceBEq, Int.reduceBNe, Int.reduceEq, Bool.not_true, Bool.not_false, eq_self, reduceCtorEq]
    refine ⟨fun hsl => ⟨by omega, ?_⟩, fun hsg => ?_⟩
    · obtain ⟨hc1, hc2⟩ := hcw s hsl
      rw [Int.toNat_natCast] at hc1 hc2
      have hcl1 := (hcm (CV.getD s []) (by rw [List.getD_eq_getElem?_getD, List.getElem?_eq_getElem (by omega)]; exact List.getElem_mem _)).2
      refine callW_rel (f32 N O false false false 0 (CV.getD s []) hb.1.1 hb.1.2 hb.2.1 hb.2.2 (by omega)) ?_
      rintro R O' ⟨out, t1, e, h1, rfl, rfl⟩
      simp (config := {implicitDefEqProofs := false, maxSteps := 4000000}) (disch := omega) only [push_cast, c8, Nat.reduceAdd, Nat.reduceSub, Nat.reduceMul, Nat.reduceBEq, Int.reduceToNat, Int.reduceNeg, Int.reduceLE, Int.reduceLT, Int.reduceBEq, Int.reduceBNe, Int.reduceEq, Bool.not_true, Bool.not_false, eq_self, reduceCtorEq]
      obtain ⟨rfl, rfl, rfl⟩ := h1.ok hv0 ⟨⟨by omega, by omega⟩, wordB_iff.2 ⟨by omega, hc2⟩⟩
      rw [hc1]
      refine ⟨fun h => absurd rfl h, fun _ => ⟨fun h => absurd rfl h, fun _ => ?_⟩⟩
      refine awp_upto (tyP_ok _) c8 2000 [2, 3, 6, 17, 19, 21, 25] (s) (fun _ => True) (fun t => ⟨212, [(2, .pay (.ints .i64 sh) false), (3, .fref [.pay (.rows N) false, .pay (.rows O) false]), (6, .bool false), (17, .pay (.rows CV) nz1), (19, .pay (.rows TL) nz2), (21, .int .i64 s), (25, .int .i64 t)], []⟩) (by kernel_rfl) ?_ ?_ ?_
      · simp (config := {implicitDefEqProofs := false, maxSteps := 4000000}) (disch := omega) only [push_cast, c8, Nat.reduceAdd, Nat.reduceSub, Nat.reduceMul, Nat.reduceBEq, Int.reduceToNat, Int.reduceNeg, Int.reduceLE, Int.reduceLT, Int.reduceBEq, Int.reduceBNe, Int.reduceEq, Bool.not_true, Bool.not_false, eq_self, reduceCtorEq]
      · trivial
      intro t ht _
      simp (config := {implicitDefEqProofs := false, maxSteps := 4000000}) (disch := omega) only [push_cast, c8, Nat.reduceAdd, Nat.reduceSub, Nat.reduceMul, Nat.reduceBEq, Int.reduceToNat, Int.reduceNeg, Int.reduceLE, Int.reduceLT, Int.reduceBEq, Int.reduceBNe, Int.reduceEq, Bool.not_true, Bool.not_false, eq_self, reduceCtorEq]
      refine ⟨fun hts => ?_, fun htg => ?_⟩
      · refine callW_rel (f33 N O false false nz2 s t TL hb hv0 ⟨by omega, by omega⟩ ⟨by omega, by omega⟩ (by omega) hTw) ?_
        rintro R O' ⟨b1, rfl, hb1, rfl⟩
        simp (config := {implicitDefEqProofs := false, maxSteps := 4000000}) (disch := omega) only [push_cast, c8, Nat.reduceAdd, Nat.reduceSub, Nat.reduceMul, Nat.reduceBEq, Int.reduceToNat, Int.reduceNeg, Int.reduceLE, Int.reduceLT, Int.reduceBEq, Int.reduceBNe, Int.reduceEq, Bool.not_true, Bool.not_false, eq_self, reduceCtorEq]
        obtain rfl := hb1 (hTt s t hts hsl)
        exact ⟨fun h => (by cases h), fun _ => hts⟩
      · exact hsl
    · refine callW_rel (f32 N O false false false 0 sh hb.1.1 hb.1.2 hb.2.1 hb.2.2 (by omega)) ?_
      rintro R O' ⟨out, t1, e, h1, rfl, rfl⟩
      simp (config := {implicitDefEqProofs := false, maxSteps := 4000000}) (disch := omega) only [push_cast, c8, Nat.reduceAdd, Nat.reduceSub, Nat.reduceMul, Nat.reduceBEq, Int.reduceToNat, Int.reduceNeg, Int.reduceLE, Int.reduceLT, Int.reduceBEq, Int.reduceBNe, Int.reduceEq, Bool.not_true, Bool.not_false, eq_self, reduceCtorEq]
      refine ⟨fun _ => ?_, fun he0 => ?_⟩
      · refine callW_eq _ _ (f11) ?_
        simp (config := {implicitDefEqProofs := false, maxSteps := 4000000}) (disch := omega) only [push_cast, c8, Nat.reduceAdd, Nat.reduceSub, Nat.reduceMul, Nat.reduceBEq, Int.reduceToNat, Int.reduceNeg, Int.reduceLE, Int.reduceLT, Int.reduceBEq, Int.reduceBNe, Int.reduceEq, Bool.not_true, Bool.not_false, eq_self, reduceCtorEq]
      obtain ⟨_, ⟨_, hwd⟩, rfl, rfl⟩ := h1.e0 he0
      obtain ⟨hwl1, hwl2⟩ := wordB_iff.1 hwd
      have hld := hV0.v.lead sh (Int.le_refl 0) (by omega) hwl2
      have hsh2 := hcs sh hwl2
      refine ⟨fun _ => ⟨fun _ => ⟨⟨by omega, by omega⟩, fun _ => ?_, fun h => by omega⟩, fun h => by omega⟩, fun h => by omega⟩
      refine callW_eq _ _ (f11) ?_
      simp (config := {implicitDefEqProofs := false, maxSteps := 4000000}) (disch := omega) only [push_cast, c8, Nat.reduceAdd, Nat.reduceSub, Nat.reduceMul, Nat.reduceBEq, Int.reduceToNat, Int.reduceNeg, Int.reduceLE, Int.reduceLT, Int.reduceBEq, Int.reduceBNe, Int.reduceEq, Bool.not_true, Bool.not_false, eq_self, reduceCtorEq]
  · clear h9
    refine callW_rel (f12 N O false false hb.1.1 hb.1.2 hb.2.1 hb.2.2) ?_
    rintro R O' ⟨cv, e1, nz1, hc1, rfl, rfl⟩
    simp (config := {implicitDefEqProofs := false, maxSteps := 4000000}) (disch := omega) only [push_cast, c8, Nat.reduceAdd, Nat.reduceSub, Nat.reduceMul, Nat.reduceBEq, Int.reduceToNat, Int.reduceNeg, Int.reduceLE, Int.reduceLT, Int.reduceBEq, Int.reduceBNe, Int.reduceEq, Bool.not_true, Bool.not_false, eq_self, reduceCtorEq]
    refine callW_rel (f13 N O false false hb.1.1 hb.1.2 hb.2.1 hb.2.2) ?_
    rintro R O' ⟨tl, e2, nz2, hc2, rfl, rfl⟩
    simp (config := {implicitDefEqProofs := false, maxSteps := 4000000}) (disch := omega) only [push_cast, c8, Nat.reduceAdd, Nat.reduceSub, Nat.reduceMul, Nat.reduceBEq, Int.reduceToNat, Int.reduceNeg, Int.reduceLE, Int.reduceLT, Int.reduceBEq, Int.reduceBNe, Int.reduceEq, Bool.not_true, Bool.not_false, eq_self, reduceCtorEq]
    rcases ask_tel hc1 hc2 with ⟨hne, rfl⟩ | ⟨hv0, hf, rfl, rfl, rfl, rfl⟩
    · refine ⟨fun _ => ⟨fun _ => ?_, fun h => absurd rfl h⟩, fun h => absurd h hne⟩
      refine callW_eq _ _ (f11) ?_
      simp (config := {implicitDefEqProofs := false, maxSteps := 4000000}) (disch := omega) only [push_cast, c8, Nat.reduceAdd, Nat.reduceSub, Nat.reduceMul, Nat.reduceBEq, Int.reduceToNat, Int.reduceNeg, Int.reduceLE, Int.reduceLT, Int.reduceBEq, Int.reduceBNe, Int.reduceEq, Bool.not_true, Bool.not_false, eq_self, reduceCtorEq]
    have hV0 := vmB_iff.1 hv0
    have hn10 := hV0.v.n1
    have hn20 := hV0.v.n2
    have hAll := fit_all hf
    have hCn := fit_cnt hf
    have hcl0 : (covL N (N.getD 0 []).length).length = N.length := cov_len
    have hcw := fun s (hs : s < N.length) => cov_spec hV0 hAll (t := (s : Int)) ⟨by omega, by omega⟩
    have hcm := fun w h => covL_mem hV0 hAll (w := w) h
    have hTl := telL_len hV0
    have hTw : ∀ w ∈ telL N O (N.getD 0 []).length, wordB (N.getD 0 []).length w = true := fun w h => by
      have := telL_mem hV0 h
      exact wordB_iff.2 ⟨by omega, this.1⟩
    have hTt := fun s t (h1 : t < s) (h2 : s < N.length) => tel_tells hV0 hCn h1 h2
    have hcs := fun w h => cov_short hV0 (w := w) h
    generalize hCV : covL N (N.getD 0 []).length = CV at *
    generalize hTL : telL N O (N.getD 0 []).length = TL at *
    refine ⟨fun h => absurd rfl h, fun _ => ⟨fun h => absurd rfl h, fun _ => ⟨fun h => absurd hcl0 h, fun _ => ?_⟩⟩⟩
    refine awp_upto (tyP_ok _) c8 2000 [2, 3, 6, 17, 19, 21] (N.length) (fun _ => True) (fun s => ⟨212, [(2, .pay (.ints .i64 sh) false), (3, .fref [.pay (.rows N) false, .pay (.rows O) false]), (6, .bool false), (17, .pay (.rows CV) nz1), (19, .pay (.rows TL) nz2), (21, .int .i64 s)], []⟩) (by kernel_rfl) ?_ ?_ ?_
    · simp (config := {implicitDefEqProofs := false, maxSteps := 4000000}) (disch := omega) only [push_cast, c8, Nat.reduceAdd, Nat.reduceSub, Nat.reduceMul, Nat.reduceBEq, Int.reduceToNat, Int.reduceNeg, Int.reduceLE, Int.reduceLT, Int.reduceBEq, Int.reduceBNe, Int.reduceEq, Bool.not_true, Bool.not_false, eq_self, reduceCtorEq]
    · trivial
    intro s hs _
    simp (config := {implicitDefEqProofs := false, maxSteps := 4000000}) (disch := omega) only [push_cast, c8, Nat.reduceAdd, Nat.reduceSub, Nat.reduceMul, Nat.reduceBEq, Int.reduceToNat, Int.reduceNeg, Int.reduceLE, Int.reduceLT, Int.reduceBEq, Int.reduceBNe, Int.reduceEq, Bool.not_true, Bool.not_false, eq_self, reduceCtorEq]
    refine ⟨fun hsl => ⟨by omega, ?_⟩, fun hsg => ?_⟩
    · obtain ⟨hc1, hc2⟩ := hcw s hsl
      rw [Int.toNat_natCast] at hc1 hc2
      have hcl1 := (hcm (CV.getD s []) (by rw [List.getD_eq_getElem?_getD, List.getElem?_eq_getElem (by omega)]; exact List.getElem_mem _)).2
      refine callW_rel (f32 N O false false false 0 (CV.getD s []) hb.1.1 hb.1.2 hb.2.1 hb.2.2 (by omega)) ?_
      rintro R O' ⟨out, t1, e, h1, rfl, rfl⟩
      simp (config := {implicitDefEqProofs := false, maxSteps := 4000000}) (disch := omega) only [push_cast, c8, Nat.reduceAdd, Nat.reduceSub, Nat.reduceMul, Nat.reduceBEq, Int.reduceToNat, Int.reduceNeg, Int.reduceLE, Int.reduceLT, Int.reduceBEq, Int.reduceBNe, Int.reduceEq, Bool.not_true, Bool.not_false, eq_self, reduceCtorEq]
      obtain ⟨rfl, rfl, rfl⟩ := h1.ok hv0 ⟨⟨by omega, by omega⟩, wordB_iff.2 ⟨by omega, hc2⟩⟩
      rw [hc1]
      refine ⟨fun h => absurd rfl h, fun _ => ⟨fun h => absurd rfl h, fun _ => ?_⟩⟩
      refine awp_upto (tyP_ok _) c8 2000 [2, 3, 6, 17, 19, 21, 25] (s) (fun _ => True) (fun t => ⟨212, [(2, .pay (.ints .i64 sh) false), (3, .fref [.pay (.rows N) false, .pay (.rows O) false]), (6, .bool false), (17, .pay (.rows CV) nz1), (19, .pay (.rows TL) nz2), (21, .int .i64 s), (25, .int .i64 t)], []⟩) (by kernel_rfl) ?_ ?_ ?_
      · simp (config := {implicitDefEqProofs := false, maxSteps := 4000000}) (disch := omega) only [push_cast, c8, Nat.reduceAdd, Nat.reduceSub, Nat.reduceMul, Nat.reduceBEq, Int.reduceToNat, Int.reduceNeg, Int.reduceLE, Int.reduceLT, Int.reduceBEq, Int.reduceBNe, Int.reduceEq, Bool.not_true, Bool.not_false, eq_self, reduceCtorEq]
      · trivial
      intro t ht _
      simp (config := {implicitDefEqProofs := false, maxSteps := 4000000}) (disch := omega) only [push_cast, c8, Nat.reduceAdd, Nat.reduceSub, Nat.reduceMul, Nat.reduceBEq, Int.reduceToNat, Int.reduceNeg, Int.reduceLE, Int.reduceLT, Int.reduceBEq, Int.reduceBNe, Int.reduceEq, Bool.not_true, Bool.not_false, eq_self, reduceCtorEq]
      refine ⟨fun hts => ?_, fun htg => ?_⟩
      · refine callW_rel (f33 N O false false nz2 s t TL hb hv0 ⟨by omega, by omega⟩ ⟨by omega, by omega⟩ (by omega) hTw) ?_
        rintro R O' ⟨b1, rfl, hb1, rfl⟩
        simp (config := {implicitDefEqProofs := false, maxSteps := 4000000}) (disch := omega) only [push_cast, c8, Nat.reduceAdd, Nat.reduceSub, Nat.reduceMul, Nat.reduceBEq, Int.reduceToNat, Int.reduceNeg, Int.reduceLE, Int.reduceLT, Int.reduceBEq, Int.reduceBNe, Int.reduceEq, Bool.not_true, Bool.not_false, eq_self, reduceCtorEq]
        obtain rfl := hb1 (hTt s t hts hsl)
        exact ⟨fun h => (by cases h), fun _ => hts⟩
      · exact hsl
    · refine callW_rel (f32 N O false false false 0 sh hb.1.1 hb.1.2 hb.2.1 hb.2.2 (by omega)) ?_
      rintro R O' ⟨out, t1, e, h1, rfl, rfl⟩
      simp (config := {implicitDefEqProofs := false, maxSteps := 4000000}) (disch := omega) only [push_cast, c8, Nat.reduceAdd, Nat.reduceSub, Nat.reduceMul, Nat.reduceBEq, Int.reduceToNat, Int.reduceNeg, Int.reduceLE, Int.reduceLT, Int.reduceBEq, Int.reduceBNe, Int.reduceEq, Bool.not_true, Bool.not_false, eq_self, reduceCtorEq]
      refine ⟨fun _ => ?_, fun he0 => ?_⟩
      · refine callW_eq _ _ (f11) ?_
        simp (config := {implicitDefEqProofs := false, maxSteps := 4000000}) (disch := omega) only [push_cast, c8, Nat.reduceAdd, Nat.reduceSub, Nat.reduceMul, Nat.reduceBEq, Int.reduceToNat, Int.reduceNeg, Int.reduceLE, Int.reduceLT, Int.reduceBEq, Int.reduceBNe, Int.reduceEq, Bool.not_true, Bool.not_false, eq_self, reduceCtorEq]
      obtain ⟨_, ⟨_, hwd⟩, rfl, rfl⟩ := h1.e0 he0
      obtain ⟨hwl1, hwl2⟩ := wordB_iff.1 hwd
      have hld := hV0.v.lead sh (Int.le_refl 0) (by omega) hwl2
      have hsh2 := hcs sh hwl2
      refine ⟨fun _ => ⟨fun _ => ⟨⟨by omega, by omega⟩, fun _ => ?_, fun h => by omega⟩, fun h => by omega⟩, fun h => by omega⟩
      refine callW_eq _ _ (f11) ?_
      simp (config := {implicitDefEqProofs := false, maxSteps := 4000000}) (disch := omega) only [push_cast, c8, Nat.reduceAdd, Nat.reduceSub, Nat.reduceMul, Nat.reduceBEq, Int.reduceToNat, Int.reduceNeg, Int.reduceLE, Int.reduceLT, Int.reduceBEq, Int.reduceBNe, Int.reduceEq, Bool.not_true, Bool.not_false, eq_self, reduceCtorEq]
theorem lawCheckOwn (N O : List (List Int)) (words : List (List Int)) (sh : List Int) (hl : N.length ≤ 4611686018427387904) (_ : ∀ r ∈ N, r.length ≤ 4611686018427387904) (ho : O.length ≤ 4611686018427387904) (_ : ∀ r ∈ O, r.length ≤ 4611686018427387904) (hwl : words.length ≤ 17592186044416) (hww : ∀ r ∈ words, r.length ≤ 17592186044416) (hsh : sh.length ≤ 4611686018427387904) :
    ACall Try.prog 8 [.agg [.pay (.rows (N)) (false), .pay (.rows (O)) (false)], .pay (.rows words) false, .pay (.ints .i64 sh) false] (fun r objs => r = .bool true ∧ objs = []) := f8 N O words sh hl ho hwl hww hsh
end Go.AM
end

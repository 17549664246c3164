/-
  Contract of CheckFaults; conditions in each statement.
-/
import Derived.Test.YtdfocobojkmenaaS10
import Derived.Test.YtdfocobojkmenaaS12
import Derived.Test.YtdfocobojkmenaaP8
set_option linter.unusedVariables false
set_option linter.unusedSimpArgs false
set_option linter.unusedSectionVars false
set_option linter.unnecessarySimpa false

/-! text Uk32 -/
section
namespace Go.AM
open Go Go.Proofs Go.Sort
theorem tel_some {N O : List (List Int)} {k : Nat} (hV : VM N O k) (hC : cntT N O k = N.length) : ∃ t, t ∈ telL N O k := by
  by_cases h1 : N.length = 1
  · exact ⟨[], by rw [telL, if_pos h1]; simp⟩
  · have hn := hV.v.n1
    obtain ⟨t, ht, _⟩ := tel_tells hV hC (s := 1) (t := 0) (by omega) (by omega)
    exact ⟨t, ht⟩
theorem pre_suf {N O : List (List Int)} {k e : Nat} {p t : List Int} (hp : isPre N k (e + 1) p) (ht : t ∈ telL N O k) : p ++ t ∈ sufL N O k e := by
  obtain ⟨s, v, h1, h2, h3, rfl⟩ := hp
  have hcl : (covL N k).length = N.length := cov_len
  exact mem_wB.2 ⟨_, by rw [List.getD_eq_getElem?_getD, List.getElem?_eq_getElem (by omega)]; exact List.getElem_mem _, v, mem_midW.2 ⟨v, h2, h3, by simp⟩, t, ht, rfl⟩
/-- the suite finds every fault (Vasilevskii, Chow) -/
theorem suite_finds {N O M Q : List (List Int)} {k e : Nat} (hN : VM N O k) (hM : VM M Q k) (hA : allC N k = true) (hC : cntT N O k = N.length) (hl : M.length ≤ N.length + e) : passB N O M Q (onceL (sufL N O k e)) = true ↔ ∀ w : List Int, (∀ x ∈ w, 0 ≤ x ∧ x < k) → outsG N O 0 w = outsG M Q 0 w := by
  rw [passB, List.all_eq_true]
  constructor
  · intro h w hw
    exact suite_enough hN hM hA hC hl (tel_some hN hC) (fun p t hp ht => of_decide_eq_true (h _ (mem_onceL.2 (pre_suf hp ht)))) w hw
  · intro h p hp
    exact decide_eq_true (h p (suf_mem hN hA (mem_onceL.1 hp)).1)
theorem suite_tells {N O M Q : List (List Int)} {k e : Nat} (hN : VM N O k) (hM : VM M Q k) (hA : allC N k = true) (hC : cntT N O k = N.length) (hl : M.length ≤ N.length + e) {w : List Int} {ok : Bool} (h : TellR N O M Q 0 0 k w ok) : passB N O M Q (onceL (sufL N O k e)) = !ok := by
  have hn := hN.v.n1
  have hm := hM.v.n1
  have hf := suite_finds hN hM hA hC hl
  cases ok with
  | false =>
    exact hf.2 (h.none hN hM ⟨by omega, by omega⟩ ⟨by omega, by omega⟩)
  | true =>
    obtain ⟨h1, _, h2, _⟩ := h.first hN hM ⟨by omega, by omega⟩ ⟨by omega, by omega⟩
    cases hp : passB N O M Q (onceL (sufL N O k e)) with
    | false => rfl
    | true => exact absurd (hf.1 hp w h1) h2
/- mizmaze/mizmazelaw09.CheckFaults -/
def c7 : VCfg := ⟨⟨[], [], [], [0, 1, 2, 3, 4, 6, 7, 8, 9, 10, 11, 12, 13, 14, 62, 71]⟩, [(2, (.op 0 .loose (.op 1 .eff (.op 2 .loose (.op 3 .loose (.op 4 .eff (.op 5 .loose (.op 6 .loose (.op 7 .loose (.op 8 .eff (.op 9 .loose (.op 10 .loose (.op 11 .loose (.op 12 .loose (.op 13 .eff (.op 14 .loose (.op 15 .loose (.op 16 .loose (.op 17 .loose (.op 18 .eff (.op 19 .loose (.op 20 .loose (.op 21 .loose (.op 22 .loose (.op 24 .loose (.op 23 .eff (.op 25 .eff (.op 26 .loose (.op 27 .loose (.op 28 .loose (.op 29 .loose (.op 30 .loose (.op 31 .loose (.op 32 .loose (.op 33 .loose (.op 34 .loose (.op 35 .loose (.op 36 .loose (.op 37 .loose (.op 38 .loose (.op 39 .loose (.op 40 .loose (.op 41 .loose (.op 42 .eff (.op 43 .loose (.op 44 .loose .nil))))))))))))))))))))))))))))))))))))))))))))))], [], []⟩
set_option maxHeartbeats 16000000 in
set_option maxRecDepth 100000 in
theorem f7 (N O M Q : List (List Int)) (x : Int) (hx : 0 ≤ x ∧ x < 256) (hl : N.length ≤ 4611686018427387904) (hl2 : O.length ≤ 4611686018427387904) (hm : M.length ≤ 4611686018427387904) (hm2 : Q.length ≤ 4611686018427387904) :
    ACall Try.prog 7 [.agg [.pay (.rows (N)) (false), .pay (.rows (O)) (false)], .agg [.pay (.rows (M)) (false), .pay (.rows (Q)) (false)], .int .u8 x] (fun r objs => r = .bool true ∧ objs = []) := by
  obtain ⟨m, rfl⟩ : ∃ m : Nat, x = m := ⟨x.toNat, by omega⟩
  refine acall_intro (tyP_ok _) c7 2000 [.tmp 6] Try.func7 rfl (by rfl) rfl (by kernel_rfl) ?_
  unfold Try.f7
  simp (config := {implicitDefEqProofs := false, maxSteps := 4000000}) (disch := omega) only [push_cast, c7, Nat.reduceAdd, Nat.reduceSub, Nat.reduceMul, Nat.reduceBEq, Int.reduceToNat, Int.reduceNeg, Int.reduceLE, Int.reduceLT, Int.reduceBEq, Int.reduceBNe, Int.reduceEq, Bool.not_true, Bool.not_false, eq_self, reduceCtorEq]
  refine callW_rel (f10 N O false false hl hl2) ?_
  rintro R O' ⟨b, rfl, hb, rfl⟩
  simp (config := {implicitDefEqProofs := false, maxSteps := 4000000}) (disch := omega) only [push_cast, c7, Nat.reduceAdd, Nat.reduceSub, Nat.reduceMul, Nat.reduceBEq, Int.reduceToNat, Int.reduceNeg, Int.reduceLE, Int.reduceLT, Int.reduceBEq, Int.reduceBNe, Int.reduceEq, Bool.not_true, Bool.not_false, eq_self, reduceCtorEq]
  refine ⟨fun h => ?_, fun h => ?_⟩
  · refine callW_eq _ _ (f11) ?_
    simp (config := {implicitDefEqProofs := false, maxSteps := 4000000}) (disch := omega) only [push_cast, c7, Nat.reduceAdd, Nat.reduceSub, Nat.reduceMul, Nat.reduceBEq, Int.reduceToNat, Int.reduceNeg, Int.reduceLE, Int.reduceLT, Int.reduceBEq, Int.reduceBNe, Int.reduceEq, Bool.not_true, Bool.not_false, eq_self, reduceCtorEq]
  have hb := nb (hb h)
  refine callW_rel (f10 M Q false false hm hm2) ?_
  rintro R O' ⟨b2, rfl, hb2, rfl⟩
  simp (config := {implicitDefEqProofs := false, maxSteps := 4000000}) (disch := omega) only [push_cast, c7, Nat.reduceAdd, Nat.reduceSub, Nat.reduceMul, Nat.reduceBEq, Int.reduceToNat, Int.reduceNeg, Int.reduceLE, Int.reduceLT, Int.reduceBEq, Int.reduceBNe, Int.reduceEq, Bool.not_true, Bool.not_false, eq_self, reduceCtorEq]
  refine ⟨fun h => ?_, fun h => ?_⟩
  · refine callW_eq _ _ (f11) ?_
    simp (config := {implicitDefEqProofs := false, maxSteps := 4000000}) (disch := omega) only [push_cast, c7, Nat.reduceAdd, Nat.reduceSub, Nat.reduceMul, Nat.reduceBEq, Int.reduceToNat, Int.reduceNeg, Int.reduceLE, Int.reduceLT, Int.reduceBEq, Int.reduceBNe, Int.reduceEq, Bool.not_true, Bool.not_false, eq_self, reduceCtorEq]
  have hb2 := nb (hb2 h)
  refine callW_eq _ _ (f14 N O false false hb.1.1 hb.1.2 hb.2.1 hb.2.2) ?_
  simp (config := {implicitDefEqProofs := false, maxSteps := 4000000}) (disch := omega) only [push_cast, c7, Nat.reduceAdd, Nat.reduceSub, Nat.reduceMul, Nat.reduceBEq, Int.reduceToNat, Int.reduceNeg, Int.reduceLE, Int.reduceLT, Int.reduceBEq, Int.reduceBNe, Int.reduceEq, Bool.not_true, Bool.not_false, eq_self, reduceCtorEq]
  refine ⟨fun hv => ?_, fun hv => ?_⟩
  · refine callW_eq _ _ (f11) ?_
    simp (config := {implicitDefEqProofs := false, maxSteps := 4000000}) (disch := omega) only [push_cast, c7, Nat.reduceAdd, Nat.reduceSub, Nat.reduceMul, Nat.reduceBEq, Int.reduceToNat, Int.reduceNeg, Int.reduceLE, Int.reduceLT, Int.reduceBEq, Int.reduceBNe, Int.reduceEq, Bool.not_true, Bool.not_false, eq_self, reduceCtorEq]
  refine callW_eq _ _ (f14 M Q false false hb2.1.1 hb2.1.2 hb2.2.1 hb2.2.2) ?_
  simp (config := {implicitDefEqProofs := false, maxSteps := 4000000}) (disch := omega) only [push_cast, c7, Nat.reduceAdd, Nat.reduceSub, Nat.reduceMul, Nat.reduceBEq, Int.reduceToNat, Int.reduceNeg, Int.reduceLE, Int.reduceLT, Int.reduceBEq, Int.reduceBNe, Int.reduceEq, Bool.not_true, Bool.not_false, eq_self, reduceCtorEq]
  refine ⟨fun hv2 => ?_, fun hv2 => ?_⟩
  · refine callW_eq _ _ (f11) ?_
    simp (config := {implicitDefEqProofs := false, maxSteps := 4000000}) (disch := omega) only [push_cast, c7, Nat.reduceAdd, Nat.reduceSub, Nat.reduceMul, Nat.reduceBEq, Int.reduceToNat, Int.reduceNeg, Int.reduceLE, Int.reduceLT, Int.reduceBEq, Int.reduceBNe, Int.reduceEq, Bool.not_true, Bool.not_false, eq_self, reduceCtorEq]
  refine callW_eq _ _ (f15 N O false false hv) ?_
  simp (config := {implicitDefEqProofs := false, maxSteps := 4000000}) (disch := omega) only [push_cast, c7, Nat.reduceAdd, Nat.reduceSub, Nat.reduceMul, Nat.reduceBEq, Int.reduceToNat, Int.reduceNeg, Int.reduceLE, Int.reduceLT, Int.reduceBEq, Int.reduceBNe, Int.reduceEq, Bool.not_true, Bool.not_false, eq_self, reduceCtorEq]
  refine ⟨fun hf => ?_, fun hf => ?_⟩
  · refine callW_eq _ _ (f11) ?_
    simp (config := {implicitDefEqProofs := false, maxSteps := 4000000}) (disch := omega) only [push_cast, c7, Nat.reduceAdd, Nat.reduceSub, Nat.reduceMul, Nat.reduceBEq, Int.reduceToNat, Int.reduceNeg, Int.reduceLE, Int.reduceLT, Int.reduceBEq, Int.reduceBNe, Int.reduceEq, Bool.not_true, Bool.not_false, eq_self, reduceCtorEq]
  have hV := vmB_iff.1 hv
  have hV2 := vmB_iff.1 hv2
  have hn1 := hV.v.n1
  have hm1 := hV2.v.n1
  have hn2 := hV.v.n2
  have hAll := fit_all hf
  have hCn : cntT N O (N.getD 0 []).length = N.length := by rw [fitB, Bool.and_eq_true, decide_eq_true_eq] at hf; exact hf.2
  refine callW_eq _ _ (f26 N O false false (by omega)) ?_
  simp (config := {implicitDefEqProofs := false, maxSteps := 4000000}) (disch := omega) only [push_cast, c7, Nat.reduceAdd, Nat.reduceSub, Nat.reduceMul, Nat.reduceBEq, Int.reduceToNat, Int.reduceNeg, Int.reduceLE, Int.reduceLT, Int.reduceBEq, Int.reduceBNe, Int.reduceEq, Bool.not_true, Bool.not_false, eq_self, reduceCtorEq]
  refine callW_eq _ _ (f26 M Q false false (by omega)) ?_
  simp (config := {implicitDefEqProofs := false, maxSteps := 4000000}) (disch := omega) only [push_cast, c7, Nat.reduceAdd, Nat.reduceSub, Nat.reduceMul, Nat.reduceBEq, Int.reduceToNat, Int.reduceNeg, Int.reduceLE, Int.reduceLT, Int.reduceBEq, Int.reduceBNe, Int.reduceEq, Bool.not_true, Bool.not_false, eq_self, reduceCtorEq]
  have e0 : ((m : Int).tmod 3) = ((m % 3 : Nat) : Int) := Int.ofNat_tmod m 3
  have hn3 : m % 3 ≤ 2 := by omega
  rw [e0]
  generalize m % 3 = n at *
  have e1 : IntKind.i64.wrap ((N.length : Int) + (n : Int)) = ((N.length + n : Nat) : Int) := wrap_nat (by omega) (by omega)
  try rw [e1]
  refine ⟨fun hne => ?_, fun hkk => ⟨fun hbig => ?_, fun hsm => ?_⟩⟩
  · refine callW_eq _ _ (f11) ?_
    simp (config := {implicitDefEqProofs := false, maxSteps := 4000000}) (disch := omega) only [push_cast, c7, Nat.reduceAdd, Nat.reduceSub, Nat.reduceMul, Nat.reduceBEq, Int.reduceToNat, Int.reduceNeg, Int.reduceLE, Int.reduceLT, Int.reduceBEq, Int.reduceBNe, Int.reduceEq, Bool.not_true, Bool.not_false, eq_self, reduceCtorEq]
  · refine callW_eq _ _ (f11) ?_
    simp (config := {implicitDefEqProofs := false, maxSteps := 4000000}) (disch := omega) only [push_cast, c7, Nat.reduceAdd, Nat.reduceSub, Nat.reduceMul, Nat.reduceBEq, Int.reduceToNat, Int.reduceNeg, Int.reduceLE, Int.reduceLT, Int.reduceBEq, Int.reduceBNe, Int.reduceEq, Bool.not_true, Bool.not_false, eq_self, reduceCtorEq]
  rw [← hkk] at hV2
  refine callW_eq _ _ (f19 N O false false _ hV n (by omega)) ?_
  simp (config := {implicitDefEqProofs := false, maxSteps := 4000000}) (disch := omega) only [push_cast, c7, e0, Nat.reduceAdd, Nat.reduceSub, Nat.reduceMul, Nat.reduceBEq, Int.reduceToNat, Int.reduceNeg, Int.reduceLE, Int.reduceLT, Int.reduceBEq, Int.reduceBNe, Int.reduceEq, Bool.not_true, Bool.not_false, eq_self, reduceCtorEq]
  refine ⟨fun hbig => ?_, fun hsm2 => ?_⟩
  · refine callW_eq _ _ (f11) ?_
    simp (config := {implicitDefEqProofs := false, maxSteps := 4000000}) (disch := omega) only [push_cast, c7, Nat.reduceAdd, Nat.reduceSub, Nat.reduceMul, Nat.reduceBEq, Int.reduceToNat, Int.reduceNeg, Int.reduceLE, Int.reduceLT, Int.reduceBEq, Int.reduceBNe, Int.reduceEq, Bool.not_true, Bool.not_false, eq_self, reduceCtorEq]
  refine callW_rel (f20 N O false false n hb.1.1 hb.1.2 hb.2.1 hb.2.2) ?_
  rintro R O' ⟨l, e, nz, h9, rfl, rfl⟩
  simp (config := {implicitDefEqProofs := false, maxSteps := 4000000}) (disch := omega) only [push_cast, c7, Nat.reduceAdd, Nat.reduceSub, Nat.reduceMul, Nat.reduceBEq, Int.reduceToNat, Int.reduceNeg, Int.reduceLE, Int.reduceLT, Int.reduceBEq, Int.reduceBNe, Int.reduceEq, Bool.not_true, Bool.not_false, eq_self, reduceCtorEq]
  have h8 := sui_ok h9 hv hf (by omega)
  rw [Int.toNat_natCast] at h8
  rcases h8 with ⟨_, rfl, rfl⟩ | ⟨hcn, rfl, rfl⟩
  · refine ⟨fun _ => ⟨fun _ => ?_, fun h => absurd rfl h⟩, fun h => by omega⟩
    refine callW_eq _ _ (f11) ?_
    simp (config := {implicitDefEqProofs := false, maxSteps := 4000000}) (disch := omega) only [push_cast, c7, Nat.reduceAdd, Nat.reduceSub, Nat.reduceMul, Nat.reduceBEq, Int.reduceToNat, Int.reduceNeg, Int.reduceLE, Int.reduceLT, Int.reduceBEq, Int.reduceBNe, Int.reduceEq, Bool.not_true, Bool.not_false, eq_self, reduceCtorEq]
  refine ⟨fun h => absurd rfl h, fun _ => ?_⟩
  have hSl : (onceL (sufL N O (N.getD 0 []).length n)).length ≤ 20000 := hcn
  have hSw : ∀ w ∈ onceL (sufL N O (N.getD 0 []).length n), wordB (N.getD 0 []).length w = true := fun w hw => by
    have := suf_mem hV hAll (mem_onceL.1 hw)
    exact wordB_iff.2 ⟨by omega, this.1⟩
  refine callW_rel (f25 N O M Q false false false false (onceL (sufL N O (N.getD 0 []).length n)) nz hb hb2 ⟨by omega, fun r hr => by have := (wordB_iff.1 (hSw r hr)).1; omega⟩) ?_
  rintro R O' ⟨is, e, h10, rfl, rfl⟩
  simp (config := {implicitDefEqProofs := false, maxSteps := 4000000}) (disch := omega) only [push_cast, c7, Nat.reduceAdd, Nat.reduceSub, Nat.reduceMul, Nat.reduceBEq, Int.reduceToNat, Int.reduceNeg, Int.reduceLE, Int.reduceLT, Int.reduceBEq, Int.reduceBNe, Int.reduceEq, Bool.not_true, Bool.not_false, eq_self, reduceCtorEq]
  obtain ⟨rfl, his⟩ : e = 0 ∧ is = passB N O M Q (onceL (sufL N O (N.getD 0 []).length n)) := by
    rcases h10 with ⟨h | h, _⟩ | ⟨_, h | h, _⟩ | ⟨_, _, _, h⟩
    · rw [hv] at h; cases h
    · rw [hv2] at h; cases h
    · exact absurd hkk h
    · rw [List.all_eq_true.2 hSw] at h; cases h
    · exact h
  refine callW_rel (f29 N O M Q false false false false 0 0 hb.1.1 hb.1.2 hb.2.1 hb.2.2 hb2.1.1 hb2.1.2 hb2.2.1 hb2.2.2) ?_
  rintro R O' ⟨is2, w, e2, nz2, h11, rfl, rfl⟩
  simp (config := {implicitDefEqProofs := false, maxSteps := 4000000}) (disch := omega) only [push_cast, c7, Nat.reduceAdd, Nat.reduceSub, Nat.reduceMul, Nat.reduceBEq, Int.reduceToNat, Int.reduceNeg, Int.reduceLE, Int.reduceLT, Int.reduceBEq, Int.reduceBNe, Int.reduceEq, Bool.not_true, Bool.not_false, eq_self, reduceCtorEq]
  rcases h11 with ⟨h, _⟩ | ⟨_, h, _⟩ | ⟨_, _, hT, rfl⟩
  · exact absurd ⟨hv, hv2⟩ h
  · exact absurd ⟨⟨by omega, by omega⟩, ⟨by omega, by omega⟩, hkk⟩ h
  have hfin := suite_tells hV hV2 hAll hCn (show M.length ≤ N.length + n by omega) hT
  rw [← his, Bool.not_not] at hfin
  subst hfin
  have hwe : is = ((w.length : Int) == 0) := by
    cases is with
    | true =>
      have := hT.nil
      subst this; rfl
    | false =>
      obtain ⟨_, h2, _⟩ := hT.first hV hV2 ⟨by omega, by omega⟩ ⟨by omega, by omega⟩
      symm
      rw [beq_eq_false_iff_ne]
      intro h
      exact h2 (List.length_eq_zero_iff.1 (by omega))
  refine ⟨fun _ => ⟨fun _ => ⟨fun _ => ?_, fun h => absurd hwe h⟩, fun h => absurd rfl h⟩, fun h => absurd rfl h⟩
  refine callW_eq _ _ (f11) ?_
  simp (config := {implicitDefEqProofs := false, maxSteps := 4000000}) (disch := omega) only [push_cast, c7, Nat.reduceAdd, Nat.reduceSub, Nat.reduceMul, Nat.reduceBEq, Int.reduceToNat, Int.reduceNeg, Int.reduceLE, Int.reduceLT, Int.reduceBEq, Int.reduceBNe, Int.reduceEq, Bool.not_true, Bool.not_false, eq_self, reduceCtorEq]
theorem lawCheckFaults (N O M Q : List (List Int)) (x : Int) (wx : (Lit.int .u8 x).wf = true) (hl : N.length ≤ 4611686018427387904) (_ : ∀ r ∈ N, r.length ≤ 4611686018427387904) (ho : O.length ≤ 4611686018427387904) (_ : ∀ r ∈ O, r.length ≤ 4611686018427387904) (hm : M.length ≤ 4611686018427387904) (_ : ∀ r ∈ M, r.length ≤ 4611686018427387904) (hq : Q.length ≤ 4611686018427387904) (_ : ∀ r ∈ Q, r.length ≤ 4611686018427387904) :
    ACall Try.prog 7 [.agg [.pay (.rows (N)) (false), .pay (.rows (O)) (false)], .agg [.pay (.rows (M)) (false), .pay (.rows (Q)) (false)], .int .u8 x] (fun r objs => r = .bool true ∧ objs = []) := by
  have hx : 0 ≤ x ∧ x < 256 := by
    simp only [Lit.wf, Bool.and_eq_true, decide_eq_true_eq] at wx
    have h1 : IntKind.u8.min = 0 := by decide
    have h2 : IntKind.u8.max = 255 := by decide
    omega
  exact f7 N O M Q x hx hl ho hm hq
end Go.AM
end

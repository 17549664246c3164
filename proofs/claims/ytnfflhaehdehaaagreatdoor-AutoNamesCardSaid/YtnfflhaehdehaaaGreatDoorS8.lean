/-
  Contracts of AutoNames; conditions in each statement.
-/
import Derived.Test.YtnfflhaehdehaaaGreatDoorS7
import Derived.Test.YtnfflhaehdehaaaGreatDoorS4
set_option linter.unusedVariables false
set_option linter.unusedSimpArgs false
set_option linter.unusedSectionVars false

/-! text Ua14 -/
section
namespace Go.AM
open Go Go.Proofs
theorem ren_row {a : List (List Int)} {nm : List Int} (hP : NamesP a.length nm) {s : Int} (h0 : 0 ≤ s) (h1 : s < a.length) :
    0 ≤ nm.getD s.toNat 0 ∧ nm.getD s.toNat 0 < a.length ∧ (rowsOf a.length (renF a nm a.length)).getD (nm.getD s.toNat 0).toNat [] = (a.getD s.toNat []).map fun t => nm.getD t.toNat 0 := by
  have hnl := hP.1
  have hn := hP.2.1 _ (getD_mem (show s.toNat < nm.length by omega))
  refine ⟨hn.1, hn.2, ?_⟩
  rw [rowsOf_getD (by omega), renF_row hP (i := s.toNat) (by omega) _ (Nat.le_refl _), if_pos (by omega)]
theorem getD_mapI {f : Int → Int} {l : List Int} {x : Nat} (h : x < l.length) : (l.map f).getD x 0 = f (l.getD x 0) := by simp [List.getD, h]
theorem ren_lead {a : List (List Int)} {nm : List Int} {k : Nat} (hV : Vld a k) (hP : NamesP a.length nm) : ∀ (w : List Int) (s : Int), 0 ≤ s → s < a.length → (∀ x ∈ w, 0 ≤ x ∧ x < k) → leadG (rowsOf a.length (renF a nm a.length)) (nm.getD s.toNat 0) w = nm.getD (leadG a s w).toNat 0
  | [], s, _, _, _ => rfl
  | x :: w, s, h0, h1, hw => by
    have hx := hw x (by simp)
    obtain ⟨e1, e2, e3⟩ := hV.at h0 h1 hx.1 hx.2
    have hr := (ren_row (a := a) hP h0 h1).2.2
    show leadG _ _ w = _
    rw [hr, getD_mapI (by omega)]
    exact ren_lead hV hP w _ e2 e3 fun y hy => hw y (by simp [hy])
theorem ren_vld {a : List (List Int)} {nm : List Int} {k : Nat} (hV : Vld a k) (hP : NamesP a.length nm) : Vld (rowsOf a.length (renF a nm a.length)) k := by
  have hn := hV.n1
  refine ⟨by rw [rowsOf_len]; exact hn, by rw [rowsOf_len]; exact hV.n2, hV.k1, hV.k2, fun r hr => ?_⟩
  obtain ⟨c, hc, rfl⟩ := List.mem_map.1 hr
  have hc := List.mem_range.1 hc
  obtain ⟨i, hi, e⟩ := List.getElem_of_mem ((NamesP_iff.1 hP).2 c hc)
  have hnl := hP.1
  have e1 : nm.getD i 0 = c := by simp [List.getD, hi, e]
  have h := renF_row (a := a) hP (i := i) (by omega) a.length (Nat.le_refl _)
  rw [e1, show (Int.toNat (c : Int)) = c by omega, if_pos (by omega)] at h
  rw [h, rowsOf_len]
  have hrow := hV.row _ (getD_mem' (show i < a.length by omega))
  refine ⟨by rw [List.length_map]; exact hrow.1, fun t ht => ?_⟩
  obtain ⟨u, hu, rfl⟩ := List.mem_map.1 ht
  have := hrow.2 u hu
  exact hP.2.1 _ (getD_mem (show u.toNat < nm.length by omega))
def catW (words : List (List Int)) (w : List Int) : List Int := w.flatMap fun x => words.getD x.toNat []
theorem catW_snoc (words : List (List Int)) (w : List Int) (x : Int) : catW words (w ++ [x]) = catW words w ++ words.getD x.toNat [] := by simp [catW]
theorem pow_row {a words : List (List Int)} {s : Int} (h0 : 0 ≤ s) (h1 : s < a.length) : (powR a words a.length (fun _ => words.length)).getD s.toNat [] = words.map (leadG a s) := by
  rw [powR_getD (by omega), List.take_length, show ((s.toNat : Nat) : Int) = s by omega]
theorem pow_lead {a words : List (List Int)} {k : Nat} (hV : Vld a k) (hW : ∀ w ∈ words, wordB k w = true) : ∀ (w : List Int) (s : Int), 0 ≤ s → s < a.length → (∀ x ∈ w, 0 ≤ x ∧ x < words.length) → leadG (powR a words a.length (fun _ => words.length)) s w = leadG a s (catW words w)
  | [], s, _, _, _ => rfl
  | x :: w, s, h0, h1, hw => by
    have hx := hw x (by simp)
    have hxl : x.toNat < words.length := by omega
    have hl := hV.lead (words.getD x.toNat []) h0 h1 (wordB_iff.1 (hW _ (getD_mem' hxl))).2
    show leadG _ _ w = _
    rw [pow_row h0 h1, show (words.map (leadG a s)).getD x.toNat 0 = leadG a s (words.getD x.toNat []) by simp [List.getD, hxl]]
    rw [pow_lead hV hW w _ hl.1 hl.2 fun y hy => hw y (by simp [hy]), ← leadG_app]
    rfl
theorem pow_vld {a words : List (List Int)} {k : Nat} (hV : Vld a k) (hW : 1 ≤ words.length ∧ words.length ≤ 6 ∧ ∀ w ∈ words, wordB k w = true) : Vld (powR a words a.length (fun _ => words.length)) words.length := by
  refine ⟨by rw [powR_len]; exact hV.n1, by rw [powR_len]; exact hV.n2, hW.1, hW.2.1, fun r hr => ?_⟩
  obtain ⟨c, hc, rfl⟩ := List.mem_map.1 hr
  have hc := List.mem_range.1 hc
  rw [List.take_length, powR_len]
  refine ⟨by simp, fun t ht => ?_⟩
  obtain ⟨w, hw, rfl⟩ := List.mem_map.1 ht
  exact hV.lead w (by omega) (by omega) (wordB_iff.1 (hW.2.2 w hw)).2
theorem Vld.k_eq {a : List (List Int)} {k : Nat} (h : Vld a k) : (a.getD 0 []).length = k := (h.row _ (getD_mem' (by have := h.n1; omega))).1
theorem catW_letters {words : List (List Int)} {w : List Int} {k : Nat} (hW : ∀ w ∈ words, wordB k w = true) (hw : ∀ x ∈ w, 0 ≤ x ∧ x < words.length) : ∀ x ∈ catW words w, 0 ≤ x ∧ x < k := by
  intro x hx
  obtain ⟨y, hy, hxy⟩ := List.mem_flatMap.1 hx
  have := hw y hy
  exact (wordB_iff.1 (hW _ (getD_mem' (show y.toNat < words.length by omega)))).2 x hxy
theorem RenOk (a : List (List Int)) (z z' : Bool) (nm : List Int) (hv : vldB a = true) (hN : namesB a.length nm = true) :
    ACall Tryz.prog 26 [.agg [.pay (.rows a) z], .pay (.ints .i64 nm) z'] (fun r objs => ∃ nz, r = .tup [.agg [.pay (.rows (rowsOf a.length (renF a nm a.length))) nz], .int .i64 0] ∧ objs = []) := by
  have hV := vldB_iff.1 hv
  have hn := hV.n2
  have hk := hV.k2
  have hnl := (namesB_iff.1 hN).1
  refine (f26 a z z' nm (by omega) (fun r hr => by have := (hV.row r hr).1; omega) (by omega)).mono ?_
  rintro r objs ⟨A, e, nz, h, rfl, rfl⟩
  obtain ⟨rfl, rfl⟩ := h.f3 hv hN
  exact ⟨nz, rfl, rfl⟩
theorem PowOk (a : List (List Int)) (z z' : Bool) (words : List (List Int)) (hv : vldB a = true) (hW : wordsB (a.getD 0 []).length words = true) :
    ACall Tryz.prog 27 [.agg [.pay (.rows a) z], .pay (.rows words) z'] (fun r objs => ∃ nz, r = .tup [.agg [.pay (.rows (powR a words a.length (fun _ => words.length))) nz], .int .i64 0] ∧ objs = []) := by
  have hV := vldB_iff.1 hv
  have hn := hV.n2
  have hk := hV.k2
  obtain ⟨h1, h2, h3⟩ := wordsB_iff.1 hW
  refine (f27 a z z' words (by omega) (fun r hr => by have := (hV.row r hr).1; omega) (by omega) (fun r hr => by have := (wordB_iff.1 (h3 r hr)).1; omega)).mono ?_
  rintro r objs ⟨A, e, nz, h, rfl, rfl⟩
  obtain ⟨rfl, rfl⟩ := h.f3 hv hW
  exact ⟨nz, rfl, rfl⟩
/- mizmaze/mizmazelaw01.AutoNames -/
def c8 : VCfg := ⟨⟨[], [], [17], [0, 1, 2, 3, 4, 5, 10, 11, 12, 13, 14, 15, 16, 17, 18, 19, 20, 21, 22, 23, 24, 33, 44, 85, 101, 111, 125]⟩, [(6, (.op 0 .loose (.op 1 .loose (.op 2 .loose (.op 3 .loose (.op 4 .loose (.op 5 .loose (.op 6 .eff (.op 7 .loose (.op 8 .loose (.op 9 .loose (.op 10 .loose (.op 11 .loose .nil)))))))))))))], [], []⟩
set_option maxHeartbeats 8000000 in
theorem f8 (a : List (List Int)) (s : Int) (nm : List Int) (words : List (List Int)) (w : List Int) (hl : a.length ≤ 4611686018427387904) (hl2 : ∀ r ∈ a, r.length ≤ 4611686018427387904) (hx : nm.length ≤ 4611686018427387904) (hw : words.length ≤ 4611686018427387904) (hw2 : ∀ r ∈ words, r.length ≤ 4611686018427387904) (hwl : w.length ≤ 4611686018427387904) :
    ACall Tryz.prog 8 [.agg [.pay (.rows a) false], .int .i64 s, .pay (.ints .i64 nm) false, .pay (.rows words) false, .pay (.ints .i64 w) false] (fun r objs => r = .bool true ∧ objs = []) := by
  refine acall_intro (tyP_ok _) c8 2000 [.tmp 10] Tryz.func8 rfl (by rfl) rfl (by kernel_rfl) ?_
  unfold Tryz.f8
  simp (config := {implicitDefEqProofs := false, maxSteps := 4000000}) (disch := omega) only [push_cast, c8, Nat.reduceAdd, Nat.reduceSub, Nat.reduceMul, Nat.reduceBEq, Int.reduceToNat, Int.reduceNeg, Int.reduceLE, Int.reduceLT, Int.reduceBEq, Int.reduceBNe, Int.reduceEq, Bool.not_true, Bool.not_false, eq_self, reduceCtorEq]
  refine callW_eq _ _ (f12 a false hl hl2) ?_
  simp (config := {implicitDefEqProofs := false, maxSteps := 4000000}) (disch := omega) only [push_cast, c8, Nat.reduceAdd, Nat.reduceSub, Nat.reduceMul, Nat.reduceBEq, Int.reduceToNat, Int.reduceNeg, Int.reduceLE, Int.reduceLT, Int.reduceBEq, Int.reduceBNe, Int.reduceEq, Bool.not_true, Bool.not_false, eq_self, reduceCtorEq]
  refine ⟨fun hv => ?_, fun hv => ?_⟩
  · refine callW_eq _ _ (f16) ?_
    simp (config := {implicitDefEqProofs := false, maxSteps := 4000000}) (disch := omega) only [push_cast, c8, Nat.reduceAdd, Nat.reduceSub, Nat.reduceMul, Nat.reduceBEq, Int.reduceToNat, Int.reduceNeg, Int.reduceLE, Int.reduceLT, Int.reduceBEq, Int.reduceBNe, Int.reduceEq, Bool.not_true, Bool.not_false, eq_self, reduceCtorEq]
  have hV := vldB_iff.1 hv
  have hn := hV.n2
  have hn0 := hV.n1
  refine callW_eq _ _ (f13 a false s) ?_
  simp (config := {implicitDefEqProofs := false, maxSteps := 4000000}) (disch := omega) only [push_cast, c8, Nat.reduceAdd, Nat.reduceSub, Nat.reduceMul, Nat.reduceBEq, Int.reduceToNat, Int.reduceNeg, Int.reduceLE, Int.reduceLT, Int.reduceBEq, Int.reduceBNe, Int.reduceEq, Bool.not_true, Bool.not_false, eq_self, reduceCtorEq]
  refine ⟨fun hs => ?_, fun hs => ?_⟩
  · refine callW_eq _ _ (f16) ?_
    simp (config := {implicitDefEqProofs := false, maxSteps := 4000000}) (disch := omega) only [push_cast, c8, Nat.reduceAdd, Nat.reduceSub, Nat.reduceMul, Nat.reduceBEq, Int.reduceToNat, Int.reduceNeg, Int.reduceLE, Int.reduceLT, Int.reduceBEq, Int.reduceBNe, Int.reduceEq, Bool.not_true, Bool.not_false, eq_self, reduceCtorEq]
  refine callW_eq _ _ (f28 nm false a.length hx (by omega)) ?_
  simp (config := {implicitDefEqProofs := false, maxSteps := 4000000}) (disch := omega) only [push_cast, c8, Nat.reduceAdd, Nat.reduceSub, Nat.reduceMul, Nat.reduceBEq, Int.reduceToNat, Int.reduceNeg, Int.reduceLE, Int.reduceLT, Int.reduceBEq, Int.reduceBNe, Int.reduceEq, Bool.not_true, Bool.not_false, eq_self, reduceCtorEq]
  refine ⟨fun hN => ?_, fun hN => ?_⟩
  · refine callW_eq _ _ (f14 a false false w (by omega) hwl) ?_
    simp (config := {implicitDefEqProofs := false, maxSteps := 4000000}) (disch := omega) only [push_cast, c8, Nat.reduceAdd, Nat.reduceSub, Nat.reduceMul, Nat.reduceBEq, Int.reduceToNat, Int.reduceNeg, Int.reduceLE, Int.reduceLT, Int.reduceBEq, Int.reduceBNe, Int.reduceEq, Bool.not_true, Bool.not_false, eq_self, reduceCtorEq]
    refine ⟨fun hU => ?_, fun hU => ?_⟩
    · refine callW_rel (RenOk a false false nm hv hN) ?_
      rintro R O ⟨nz1, rfl, rfl⟩
      simp (config := {implicitDefEqProofs := false, maxSteps := 4000000}) (disch := omega) only [push_cast, c8, Nat.reduceAdd, Nat.reduceSub, Nat.reduceMul, Nat.reduceBEq, Int.reduceToNat, Int.reduceNeg, Int.reduceLE, Int.reduceLT, Int.reduceBEq, Int.reduceBNe, Int.reduceEq, Bool.not_true, Bool.not_false, eq_self, reduceCtorEq]
      have hP := namesB_iff.1 hN
      have hRV := ren_vld hV hP
      have hww := (wordB_iff.1 hU).2
      have hsn := ren_row (a := a) hP hs.1 hs.2
      have hnl := hP.1
      have hld := hV.lead w hs.1 hs.2 hww
      refine callW_eq _ _ (RunOk a false false s w hv hs hU) ?_
      simp (config := {implicitDefEqProofs := false, maxSteps := 4000000}) (disch := omega) only [push_cast, c8, Nat.reduceAdd, Nat.reduceSub, Nat.reduceMul, Nat.reduceBEq, Int.reduceToNat, Int.reduceNeg, Int.reduceLE, Int.reduceLT, Int.reduceBEq, Int.reduceBNe, Int.reduceEq, Bool.not_true, Bool.not_false, eq_self, reduceCtorEq]
      refine ⟨by omega, ?_⟩
      refine callW_eq _ _ (RunOk (rowsOf a.length (renF a nm a.length)) nz1 false (nm.getD s.toNat 0) w (vldB_iff.2 (by rw [hRV.k_eq]; exact hRV)) (by rw [rowsOf_len]; exact ⟨hsn.1, hsn.2.1⟩) (by rw [hRV.k_eq]; exact hU)) ?_
      simp (config := {implicitDefEqProofs := false, maxSteps := 4000000}) (disch := omega) only [push_cast, c8, Nat.reduceAdd, Nat.reduceSub, Nat.reduceMul, Nat.reduceBEq, Int.reduceToNat, Int.reduceNeg, Int.reduceLE, Int.reduceLT, Int.reduceBEq, Int.reduceBNe, Int.reduceEq, Bool.not_true, Bool.not_false, eq_self, reduceCtorEq]
      rw [ren_lead hV hP w s hs.1 hs.2 hww]
      refine ⟨by omega, fun h => h rfl, fun _ => ?_⟩
      refine callW_eq _ _ (f30 a false false words (by omega) hw hw2) ?_
      simp (config := {implicitDefEqProofs := false, maxSteps := 4000000}) (disch := omega) only [push_cast, c8, Nat.reduceAdd, Nat.reduceSub, Nat.reduceMul, Nat.reduceBEq, Int.reduceToNat, Int.reduceNeg, Int.reduceLE, Int.reduceLT, Int.reduceBEq, Int.reduceBNe, Int.reduceEq, Bool.not_true, Bool.not_false, eq_self, reduceCtorEq]
      refine ⟨fun hW => ?_, fun hW => ⟨fun hlen => ?_, fun hlen => ?_⟩⟩
      · refine callW_eq _ _ (f16) ?_
        simp (config := {implicitDefEqProofs := false, maxSteps := 4000000}) (disch := omega) only [push_cast, c8, Nat.reduceAdd, Nat.reduceSub, Nat.reduceMul, Nat.reduceBEq, Int.reduceToNat, Int.reduceNeg, Int.reduceLE, Int.reduceLT, Int.reduceBEq, Int.reduceBNe, Int.reduceEq, Bool.not_true, Bool.not_false, eq_self, reduceCtorEq]
      · refine callW_eq _ _ (f16) ?_
        simp (config := {implicitDefEqProofs := false, maxSteps := 4000000}) (disch := omega) only [push_cast, c8, Nat.reduceAdd, Nat.reduceSub, Nat.reduceMul, Nat.reduceBEq, Int.reduceToNat, Int.reduceNeg, Int.reduceLE, Int.reduceLT, Int.reduceBEq, Int.reduceBNe, Int.reduceEq, Bool.not_true, Bool.not_false, eq_self, reduceCtorEq]
      refine callW_eq _ _ (f33 w false words.length hwl) ?_
      simp (config := {implicitDefEqProofs := false, maxSteps := 4000000}) (disch := omega) only [push_cast, c8, Nat.reduceAdd, Nat.reduceSub, Nat.reduceMul, Nat.reduceBEq, Int.reduceToNat, Int.reduceNeg, Int.reduceLE, Int.reduceLT, Int.reduceBEq, Int.reduceBNe, Int.reduceEq, Bool.not_true, Bool.not_false, eq_self, reduceCtorEq]
      refine ⟨fun hb => ?_, fun hb => ?_⟩
      · refine callW_eq _ _ (f16) ?_
        simp (config := {implicitDefEqProofs := false, maxSteps := 4000000}) (disch := omega) only [push_cast, c8, Nat.reduceAdd, Nat.reduceSub, Nat.reduceMul, Nat.reduceBEq, Int.reduceToNat, Int.reduceNeg, Int.reduceLE, Int.reduceLT, Int.reduceBEq, Int.reduceBNe, Int.reduceEq, Bool.not_true, Bool.not_false, eq_self, reduceCtorEq]
      have hB := belowB_iff.1 hb
      obtain ⟨hw1, hw6, hWw⟩ := wordsB_iff.1 hW
      refine awp_upto (tyP_ok _) c8 2000 [1, 3, 4, 5, 10, 17, 18] (w.length) (fun i => (catW words (w.take i)).length ≤ 80000) (fun i => ⟨165, [(1, .int .i64 s), (3, .pay (.rows words) false), (4, .pay (.ints .i64 w) false), (5, .fref [.pay (.rows a) false]), (10, .bool false), (17, .own 0), (18, .int .i64 i)], [.arr (.ints .i64 (catW words (w.take i))) ⟨3, true⟩]⟩) (by kernel_rfl) rfl ?_ ?_
      · exact Nat.zero_le _
      intro i hi hr
      simp (config := {implicitDefEqProofs := false, maxSteps := 4000000}) (disch := omega) only [push_cast, c8, Nat.reduceAdd, Nat.reduceSub, Nat.reduceMul, Nat.reduceBEq, Int.reduceToNat, Int.reduceNeg, Int.reduceLE, Int.reduceLT, Int.reduceBEq, Int.reduceBNe, Int.reduceEq, Bool.not_true, Bool.not_false, eq_self, reduceCtorEq]
      refine ⟨fun hlt => ⟨fun hle => ?_, fun hgt => ⟨fun _ => ?_, fun h => absurd h (by omega)⟩⟩, fun hge => ⟨fun _ => ?_, fun hle => ?_⟩⟩
      · have hx := hB _ (getD_mem hlt)
        have hxl : (w.getD i 0).toNat < words.length := by omega
        have h40 := (wordB_iff.1 (hWw _ (getD_mem' hxl))).1
        have hc : catW words (w.take (i + 1)) = catW words (w.take i) ++ words.getD (w.getD i 0).toNat [] := by
          rw [← catW_snoc, List.take_succ_eq_append_getElem hlt]
          simp [List.getD, hlt]
        refine ⟨hlt, hx, by omega, hlt, ?_, hc.symm⟩
        rw [hc, List.length_append]
        omega
      · refine callW_eq _ _ (f16) ?_
        simp (config := {implicitDefEqProofs := false, maxSteps := 4000000}) (disch := omega) only [push_cast, c8, Nat.reduceAdd, Nat.reduceSub, Nat.reduceMul, Nat.reduceBEq, Int.reduceToNat, Int.reduceNeg, Int.reduceLE, Int.reduceLT, Int.reduceBEq, Int.reduceBNe, Int.reduceEq, Bool.not_true, Bool.not_false, eq_self, reduceCtorEq]
      · refine callW_eq _ _ (f16) ?_
        simp (config := {implicitDefEqProofs := false, maxSteps := 4000000}) (disch := omega) only [push_cast, c8, Nat.reduceAdd, Nat.reduceSub, Nat.reduceMul, Nat.reduceBEq, Int.reduceToNat, Int.reduceNeg, Int.reduceLE, Int.reduceLT, Int.reduceBEq, Int.reduceBNe, Int.reduceEq, Bool.not_true, Bool.not_false, eq_self, reduceCtorEq]
      rw [List.take_of_length_le hge] at hle ⊢
      have hcl := catW_letters hWw hB
      have hPV := pow_vld hV ⟨hw1, hw6, hWw⟩
      refine callW_rel (PowOk a false false words hv hW) ?_
      rintro R O ⟨nz2, rfl, rfl⟩
      simp (config := {implicitDefEqProofs := false, maxSteps := 4000000}) (disch := omega) only [push_cast, c8, Nat.reduceAdd, Nat.reduceSub, Nat.reduceMul, Nat.reduceBEq, Int.reduceToNat, Int.reduceNeg, Int.reduceLE, Int.reduceLT, Int.reduceBEq, Int.reduceBNe, Int.reduceEq, Bool.not_true, Bool.not_false, eq_self, reduceCtorEq]
      refine callW_eq _ _ (RunOk a false true s (catW words w) hv hs (wordB_iff.2 ⟨by omega, hcl⟩)) ?_
      simp (config := {implicitDefEqProofs := false, maxSteps := 4000000}) (disch := omega) only [push_cast, c8, Nat.reduceAdd, Nat.reduceSub, Nat.reduceMul, Nat.reduceBEq, Int.reduceToNat, Int.reduceNeg, Int.reduceLE, Int.reduceLT, Int.reduceBEq, Int.reduceBNe, Int.reduceEq, Bool.not_true, Bool.not_false, eq_self, reduceCtorEq]
      refine callW_eq _ _ (RunOk (powR a words a.length (fun _ => words.length)) nz2 false s w (vldB_iff.2 (by rw [hPV.k_eq]; exact hPV)) (by rw [powR_len]; exact hs) (by rw [hPV.k_eq]; exact wordB_iff.2 ⟨by omega, hB⟩)) ?_
      simp (config := {implicitDefEqProofs := false, maxSteps := 4000000}) (disch := omega) only [push_cast, c8, Nat.reduceAdd, Nat.reduceSub, Nat.reduceMul, Nat.reduceBEq, Int.reduceToNat, Int.reduceNeg, Int.reduceLE, Int.reduceLT, Int.reduceBEq, Int.reduceBNe, Int.reduceEq, Bool.not_true, Bool.not_false, eq_self, reduceCtorEq]
      rw [pow_lead hV hWw w s hs.1 hs.2 hB]
      refine ⟨fun _ => ?_, fun h => h rfl⟩
      refine callW_eq _ _ (f16) ?_
      simp (config := {implicitDefEqProofs := false, maxSteps := 4000000}) (disch := omega) only [push_cast, c8, Nat.reduceAdd, Nat.reduceSub, Nat.reduceMul, Nat.reduceBEq, Int.reduceToNat, Int.reduceNeg, Int.reduceLE, Int.reduceLT, Int.reduceBEq, Int.reduceBNe, Int.reduceEq, Bool.not_true, Bool.not_false, eq_self, reduceCtorEq]
    · refine callW_eq _ _ (f30 a false false words (by omega) hw hw2) ?_
      simp (config := {implicitDefEqProofs := false, maxSteps := 4000000}) (disch := omega) only [push_cast, c8, Nat.reduceAdd, Nat.reduceSub, Nat.reduceMul, Nat.reduceBEq, Int.reduceToNat, Int.reduceNeg, Int.reduceLE, Int.reduceLT, Int.reduceBEq, Int.reduceBNe, Int.reduceEq, Bool.not_true, Bool.not_false, eq_self, reduceCtorEq]
      refine ⟨fun hW => ?_, fun hW => ⟨fun hlen => ?_, fun hlen => ?_⟩⟩
      · refine callW_eq _ _ (f16) ?_
        simp (config := {implicitDefEqProofs := false, maxSteps := 4000000}) (disch := omega) only [push_cast, c8, Nat.reduceAdd, Nat.reduceSub, Nat.reduceMul, Nat.reduceBEq, Int.reduceToNat, Int.reduceNeg, Int.reduceLE, Int.reduceLT, Int.reduceBEq, Int.reduceBNe, Int.reduceEq, Bool.not_true, Bool.not_false, eq_self, reduceCtorEq]
      · refine callW_eq _ _ (f16) ?_
        simp (config := {implicitDefEqProofs := false, maxSteps := 4000000}) (disch := omega) only [push_cast, c8, Nat.reduceAdd, Nat.reduceSub, Nat.reduceMul, Nat.reduceBEq, Int.reduceToNat, Int.reduceNeg, Int.reduceLE, Int.reduceLT, Int.reduceBEq, Int.reduceBNe, Int.reduceEq, Bool.not_true, Bool.not_false, eq_self, reduceCtorEq]
      refine callW_eq _ _ (f33 w false words.length hwl) ?_
      simp (config := {implicitDefEqProofs := false, maxSteps := 4000000}) (disch := omega) only [push_cast, c8, Nat.reduceAdd, Nat.reduceSub, Nat.reduceMul, Nat.reduceBEq, Int.reduceToNat, Int.reduceNeg, Int.reduceLE, Int.reduceLT, Int.reduceBEq, Int.reduceBNe, Int.reduceEq, Bool.not_true, Bool.not_false, eq_self, reduceCtorEq]
      refine ⟨fun hb => ?_, fun hb => ?_⟩
      · refine callW_eq _ _ (f16) ?_
        simp (config := {implicitDefEqProofs := false, maxSteps := 4000000}) (disch := omega) only [push_cast, c8, Nat.reduceAdd, Nat.reduceSub, Nat.reduceMul, Nat.reduceBEq, Int.reduceToNat, Int.reduceNeg, Int.reduceLE, Int.reduceLT, Int.reduceBEq, Int.reduceBNe, Int.reduceEq, Bool.not_true, Bool.not_false, eq_self, reduceCtorEq]
      have hB := belowB_iff.1 hb
      obtain ⟨hw1, hw6, hWw⟩ := wordsB_iff.1 hW
      refine awp_upto (tyP_ok _) c8 2000 [1, 3, 4, 5, 10, 17, 18] (w.length) (fun i => (catW words (w.take i)).length ≤ 80000) (fun i => ⟨165, [(1, .int .i64 s), (3, .pay (.rows words) false), (4, .pay (.ints .i64 w) false), (5, .fref [.pay (.rows a) false]), (10, .bool false), (17, .own 0), (18, .int .i64 i)], [.arr (.ints .i64 (catW words (w.take i))) ⟨3, true⟩]⟩) (by kernel_rfl) rfl ?_ ?_
      · exact Nat.zero_le _
      intro i hi hr
      simp (config := {implicitDefEqProofs := false, maxSteps := 4000000}) (disch := omega) only [push_cast, c8, Nat.reduceAdd, Nat.reduceSub, Nat.reduceMul, Nat.reduceBEq, Int.reduceToNat, Int.reduceNeg, Int.reduceLE, Int.reduceLT, Int.reduceBEq, Int.reduceBNe, Int.reduceEq, Bool.not_true, Bool.not_false, eq_self, reduceCtorEq]
      refine ⟨fun hlt => ⟨fun hle => ?_, fun hgt => ⟨fun _ => ?_, fun h => absurd h (by omega)⟩⟩, fun hge => ⟨fun _ => ?_, fun hle => ?_⟩⟩
      · have hx := hB _ (getD_mem hlt)
        have hxl : (w.getD i 0).toNat < words.length := by omega
        have h40 := (wordB_iff.1 (hWw _ (getD_mem' hxl))).1
        have hc : catW words (w.take (i + 1)) = catW words (w.take i) ++ words.getD (w.getD i 0).toNat [] := by
          rw [← catW_snoc, List.take_succ_eq_append_getElem hlt]
          simp [List.getD, hlt]
        refine ⟨hlt, hx, by omega, hlt, ?_, hc.symm⟩
        rw [hc, List.length_append]
        omega
      · refine callW_eq _ _ (f16) ?_
        simp (config := {implicitDefEqProofs := false, maxSteps := 4000000}) (disch := omega) only [push_cast, c8, Nat.reduceAdd, Nat.reduceSub, Nat.reduceMul, Nat.reduceBEq, Int.reduceToNat, Int.reduceNeg, Int.reduceLE, Int.reduceLT, Int.reduceBEq, Int.reduceBNe, Int.reduceEq, Bool.not_true, Bool.not_false, eq_self, reduceCtorEq]
      · refine callW_eq _ _ (f16) ?_
        simp (config := {implicitDefEqProofs := false, maxSteps := 4000000}) (disch := omega) only [push_cast, c8, Nat.reduceAdd, Nat.reduceSub, Nat.reduceMul, Nat.reduceBEq, Int.reduceToNat, Int.reduceNeg, Int.reduceLE, Int.reduceLT, Int.reduceBEq, Int.reduceBNe, Int.reduceEq, Bool.not_true, Bool.not_false, eq_self, reduceCtorEq]
      rw [List.take_of_length_le hge] at hle ⊢
      have hcl := catW_letters hWw hB
      have hPV := pow_vld hV ⟨hw1, hw6, hWw⟩
      refine callW_rel (PowOk a false false words hv hW) ?_
      rintro R O ⟨nz2, rfl, rfl⟩
      simp (config := {implicitDefEqProofs := false, maxSteps := 4000000}) (disch := omega) only [push_cast, c8, Nat.reduceAdd, Nat.reduceSub, Nat.reduceMul, Nat.reduceBEq, Int.reduceToNat, Int.reduceNeg, Int.reduceLE, Int.reduceLT, Int.reduceBEq, Int.reduceBNe, Int.reduceEq, Bool.not_true, Bool.not_false, eq_self, reduceCtorEq]
      refine callW_eq _ _ (RunOk a false true s (catW words w) hv hs (wordB_iff.2 ⟨by omega, hcl⟩)) ?_
      simp (config := {implicitDefEqProofs := false, maxSteps := 4000000}) (disch := omega) only [push_cast, c8, Nat.reduceAdd, Nat.reduceSub, Nat.reduceMul, Nat.reduceBEq, Int.reduceToNat, Int.reduceNeg, Int.reduceLE, Int.reduceLT, Int.reduceBEq, Int.reduceBNe, Int.reduceEq, Bool.not_true, Bool.not_false, eq_self, reduceCtorEq]
      refine callW_eq _ _ (RunOk (powR a words a.length (fun _ => words.length)) nz2 false s w (vldB_iff.2 (by rw [hPV.k_eq]; exact hPV)) (by rw [powR_len]; exact hs) (by rw [hPV.k_eq]; exact wordB_iff.2 ⟨by omega, hB⟩)) ?_
      simp (config := {implicitDefEqProofs := false, maxSteps := 4000000}) (disch := omega) only [push_cast, c8, Nat.reduceAdd, Nat.reduceSub, Nat.reduceMul, Nat.reduceBEq, Int.reduceToNat, Int.reduceNeg, Int.reduceLE, Int.reduceLT, Int.reduceBEq, Int.reduceBNe, Int.reduceEq, Bool.not_true, Bool.not_false, eq_self, reduceCtorEq]
      rw [pow_lead hV hWw w s hs.1 hs.2 hB]
      refine ⟨fun _ => ?_, fun h => h rfl⟩
      refine callW_eq _ _ (f16) ?_
      simp (config := {implicitDefEqProofs := false, maxSteps := 4000000}) (disch := omega) only [push_cast, c8, Nat.reduceAdd, Nat.reduceSub, Nat.reduceMul, Nat.reduceBEq, Int.reduceToNat, Int.reduceNeg, Int.reduceLE, Int.reduceLT, Int.reduceBEq, Int.reduceBNe, Int.reduceEq, Bool.not_true, Bool.not_false, eq_self, reduceCtorEq]
  · refine callW_eq _ _ (f30 a false false words (by omega) hw hw2) ?_
    simp (config := {implicitDefEqProofs := false, maxSteps := 4000000}) (disch := omega) only [push_cast, c8, Nat.reduceAdd, Nat.reduceSub, Nat.reduceMul, Nat.reduceBEq, Int.reduceToNat, Int.reduceNeg, Int.reduceLE, Int.reduceLT, Int.reduceBEq, Int.reduceBNe, Int.reduceEq, Bool.not_true, Bool.not_false, eq_self, reduceCtorEq]
    refine ⟨fun hW => ?_, fun hW => ⟨fun hlen => ?_, fun hlen => ?_⟩⟩
    · refine callW_eq _ _ (f16) ?_
      simp (config := {implicitDefEqProofs := false, maxSteps := 4000000}) (disch := omega) only [push_cast, c8, Nat.reduceAdd, Nat.reduceSub, Nat.reduceMul, Nat.reduceBEq, Int.reduceToNat, Int.reduceNeg, Int.reduceLE, Int.reduceLT, Int.reduceBEq, Int.reduceBNe, Int.reduceEq, Bool.not_true, Bool.not_false, eq_self, reduceCtorEq]
    · refine callW_eq _ _ (f16) ?_
      simp (config := {implicitDefEqProofs := false, maxSteps := 4000000}) (disch := omega) only [push_cast, c8, Nat.reduceAdd, Nat.reduceSub, Nat.reduceMul, Nat.reduceBEq, Int.reduceToNat, Int.reduceNeg, Int.reduceLE, Int.reduceLT, Int.reduceBEq, Int.reduceBNe, Int.reduceEq, Bool.not_true, Bool.not_false, eq_self, reduceCtorEq]
    refine callW_eq _ _ (f33 w false words.length hwl) ?_
    simp (config := {implicitDefEqProofs := false, maxSteps := 4000000}) (disch := omega) only [push_cast, c8, Nat.reduceAdd, Nat.reduceSub, Nat.reduceMul, Nat.reduceBEq, Int.reduceToNat, Int.reduceNeg, Int.reduceLE, Int.reduceLT, Int.reduceBEq, Int.reduceBNe, Int.reduceEq, Bool.not_true, Bool.not_false, eq_self, reduceCtorEq]
    refine ⟨fun hb => ?_, fun hb => ?_⟩
    · refine callW_eq _ _ (f16) ?_
      simp (config := {implicitDefEqProofs := false, maxSteps := 4000000}) (disch := omega) only [push_cast, c8, Nat.reduceAdd, Nat.reduceSub, Nat.reduceMul, Nat.reduceBEq, Int.reduceToNat, Int.reduceNeg, Int.reduceLE, Int.reduceLT, Int.reduceBEq, Int.reduceBNe, Int.reduceEq, Bool.not_true, Bool.not_false, eq_self, reduceCtorEq]
    have hB := belowB_iff.1 hb
    obtain ⟨hw1, hw6, hWw⟩ := wordsB_iff.1 hW
    refine awp_upto (tyP_ok _) c8 2000 [1, 3, 4, 5, 10, 17, 18] (w.length) (fun i => (catW words (w.take i)).length ≤ 80000) (fun i => ⟨165, [(1, .int .i64 s), (3, .pay (.rows words) false), (4, .pay (.ints .i64 w) false), (5, .fref [.pay (.rows a) false]), (10, .bool false), (17, .own 0), (18, .int .i64 i)], [.arr (.ints .i64 (catW words (w.take i))) ⟨3, true⟩]⟩) (by kernel_rfl) rfl ?_ ?_
    · exact Nat.zero_le _
    intro i hi hr
    simp (config := {implicitDefEqProofs := false, maxSteps := 4000000}) (disch := omega) only [push_cast, c8, Nat.reduceAdd, Nat.reduceSub, Nat.reduceMul, Nat.reduceBEq, Int.reduceToNat, Int.reduceNeg, Int.reduceLE, Int.reduceLT, Int.reduceBEq, Int.reduceBNe, Int.reduceEq, Bool.not_true, Bool.not_false, eq_self, reduceCtorEq]
    refine ⟨fun hlt => ⟨fun hle => ?_, fun hgt => ⟨fun _ => ?_, fun h => absurd h (by omega)⟩⟩, fun hge => ⟨fun _ => ?_, fun hle => ?_⟩⟩
    · have hx := hB _ (getD_mem hlt)
      have hxl : (w.getD i 0).toNat < words.length := by omega
      have h40 := (wordB_iff.1 (hWw _ (getD_mem' hxl))).1
      have hc : catW words (w.take (i + 1)) = catW words (w.take i) ++ words.getD (w.getD i 0).toNat [] := by
        rw [← catW_snoc, List.take_succ_eq_append_getElem hlt]
        simp [List.getD, hlt]
      refine ⟨hlt, hx, by omega, hlt, ?_, hc.symm⟩
      rw [hc, List.length_append]
      omega
    · refine callW_eq _ _ (f16) ?_
      simp (config := {implicitDefEqProofs := false, maxSteps := 4000000}) (disch := omega) only [push_cast, c8, Nat.reduceAdd, Nat.reduceSub, Nat.reduceMul, Nat.reduceBEq, Int.reduceToNat, Int.reduceNeg, Int.reduceLE, Int.reduceLT, Int.reduceBEq, Int.reduceBNe, Int.reduceEq, Bool.not_true, Bool.not_false, eq_self, reduceCtorEq]
    · refine callW_eq _ _ (f16) ?_
      simp (config := {implicitDefEqProofs := false, maxSteps := 4000000}) (disch := omega) only [push_cast, c8, Nat.reduceAdd, Nat.reduceSub, Nat.reduceMul, Nat.reduceBEq, Int.reduceToNat, Int.reduceNeg, Int.reduceLE, Int.reduceLT, Int.reduceBEq, Int.reduceBNe, Int.reduceEq, Bool.not_true, Bool.not_false, eq_self, reduceCtorEq]
    rw [List.take_of_length_le hge] at hle ⊢
    have hcl := catW_letters hWw hB
    have hPV := pow_vld hV ⟨hw1, hw6, hWw⟩
    refine callW_rel (PowOk a false false words hv hW) ?_
    rintro R O ⟨nz2, rfl, rfl⟩
    simp (config := {implicitDefEqProofs := false, maxSteps := 4000000}) (disch := omega) only [push_cast, c8, Nat.reduceAdd, Nat.reduceSub, Nat.reduceMul, Nat.reduceBEq, Int.reduceToNat, Int.reduceNeg, Int.reduceLE, Int.reduceLT, Int.reduceBEq, Int.reduceBNe, Int.reduceEq, Bool.not_true, Bool.not_false, eq_self, reduceCtorEq]
    refine callW_eq _ _ (RunOk a false true s (catW words w) hv hs (wordB_iff.2 ⟨by omega, hcl⟩)) ?_
    simp (config := {implicitDefEqProofs := false, maxSteps := 4000000}) (disch := omega) only [push_cast, c8, Nat.reduceAdd, Nat.reduceSub, Nat.reduceMul, Nat.reduceBEq, Int.reduceToNat, Int.reduceNeg, Int.reduceLE, Int.reduceLT, Int.reduceBEq, Int.reduceBNe, Int.reduceEq, Bool.not_true, Bool.not_false, eq_self, reduceCtorEq]
    refine callW_eq _ _ (RunOk (powR a words a.length (fun _ => words.length)) nz2 false s w (vldB_iff.2 (by rw [hPV.k_eq]; exact hPV)) (by rw [powR_len]; exact hs) (by rw [hPV.k_eq]; exact wordB_iff.2 ⟨by omega, hB⟩)) ?_
    simp (config := {implicitDefEqProofs := false, maxSteps := 4000000}) (disch := omega) only [push_cast, c8, Nat.reduceAdd, Nat.reduceSub, Nat.reduceMul, Nat.reduceBEq, Int.reduceToNat, Int.reduceNeg, Int.reduceLE, Int.reduceLT, Int.reduceBEq, Int.reduceBNe, Int.reduceEq, Bool.not_true, Bool.not_false, eq_self, reduceCtorEq]
    rw [pow_lead hV hWw w s hs.1 hs.2 hB]
    refine ⟨fun _ => ?_, fun h => h rfl⟩
    refine callW_eq _ _ (f16) ?_
    simp (config := {implicitDefEqProofs := false, maxSteps := 4000000}) (disch := omega) only [push_cast, c8, Nat.reduceAdd, Nat.reduceSub, Nat.reduceMul, Nat.reduceBEq, Int.reduceToNat, Int.reduceNeg, Int.reduceLE, Int.reduceLT, Int.reduceBEq, Int.reduceBNe, Int.reduceEq, Bool.not_true, Bool.not_false, eq_self, reduceCtorEq]
theorem lawAutoNames (a : List (List Int)) (s : Int) (nm : List Int) (words : List (List Int)) (w : List Int) (hl : a.length ≤ 4611686018427387904) (hl2 : ∀ r ∈ a, r.length ≤ 4611686018427387904) (hx : nm.length ≤ 4611686018427387904) (hw : words.length ≤ 4611686018427387904) (hw2 : ∀ r ∈ words, r.length ≤ 4611686018427387904) (hwl : w.length ≤ 4611686018427387904) :
    ACall Tryz.prog 8 [.agg [.pay (.rows a) false], .int .i64 s, .pay (.ints .i64 nm) false, .pay (.rows words) false, .pay (.ints .i64 w) false] (fun r objs => r = .bool true ∧ objs = []) := f8 a s nm words w hl hl2 hx hw hw2 hwl
end Go.AM
end

/-
  Contracts of Suite and of the chapter's example; conditions in each statement.
-/
import Derived.Test.YtdfocobojkmenaaS6
import Derived.Test.YtdfocobojkmenaaP4
import Derived.Test.YtdfocobojkmenaaF5
set_option linter.unusedVariables false
set_option linter.unusedSimpArgs false
set_option linter.unusedSectionVars false
set_option linter.unnecessarySimpa false

/-! text Uk23 -/
section
namespace Go.AM
open Go Go.Proofs Go.Sort
/-- a word more gives nothing but its nodes -/
theorem TrS.addT {T T' : List TN} {b0 b' : Nat} {u w : List Int} {W : List (List Int)} (h : TrS T b0 W) (ha : AddT T T' u w b') (hl : u.length + w.length ≤ 10000) : TrS T' b0 W := by
  refine ⟨ha.wt, ?_, fun p => (ha.mrk p).trans (h.mrk p), fun s hs => ?_⟩
  · obtain ⟨t, h1, h2⟩ := h.root
    exact ⟨t, ExtT.nd ha.wt ha.ext h1, h2⟩
  · rcases ha.dep s hs with h1 | h1
    · exact h.dep s h1
    · omega
theorem midW_mem {k : Nat} : ∀ (f : Nat) (w : List Int), (∀ x ∈ w, 0 ≤ x ∧ x < k) → ∀ p ∈ midW k f w, (∀ x ∈ p, 0 ≤ x ∧ x < k) ∧ p.length ≤ w.length + f
  | 0, w, hw, p, hp => by
    simp only [midW, List.mem_singleton] at hp
    subst hp; exact ⟨hw, by omega⟩
  | f + 1, w, hw, p, hp => by
    simp only [midW, List.mem_cons, List.mem_flatMap, List.mem_range] at hp
    rcases hp with rfl | ⟨x, hx, hp⟩
    · exact ⟨hw, by omega⟩
    · obtain ⟨h1, h2⟩ := midW_mem f (w ++ [(x : Int)]) (fun z hz => by
        rcases List.mem_append.1 hz with hz | hz
        · exact hw z hz
        · simp only [List.mem_singleton] at hz; omega) p hp
      rw [List.length_append, List.length_singleton] at h2
      exact ⟨h1, by omega⟩
/-- the words of the suite as they are met -/
noncomputable def sufL (N O : List (List Int)) (k extra : Nat) : List (List Int) := wB (covL N k) (midW k (extra + 1) []) (telL N O k)
/-- what Suite answers -/
def SuiR (N O : List (List Int)) (extra : Int) (l : List (List Int)) (e : Int) : Prop :=
  (vmB N O = false ∧ e = 1 ∧ l = []) ∨ (vmB N O = true ∧ (fitB N O = false ∨ ¬ (0 ≤ extra ∧ extra ≤ 2)) ∧ e = 2 ∧ l = []) ∨
  (vmB N O = true ∧ fitB N O = true ∧ (0 ≤ extra ∧ extra ≤ 2) ∧ 20000 < cntW (sufL N O (N.getD 0 []).length extra.toNat) ∧ e = 3 ∧ l = []) ∨
  (vmB N O = true ∧ fitB N O = true ∧ (0 ≤ extra ∧ extra ≤ 2) ∧ cntW (sufL N O (N.getD 0 []).length extra.toNat) ≤ 20000 ∧ e = 0 ∧ l = onceL (sufL N O (N.getD 0 []).length extra.toNat))
/- mizmaze/check.Suite -/
def c20 : VCfg := ⟨⟨[38], [], [], [0, 1, 2, 4, 5, 6, 7, 8, 9, 10, 12, 13, 14, 15, 17, 18, 24, 28, 39, 40, 41, 42, 55, 56, 60, 61, 62, 63, 73, 80]⟩, [], [52, 54], [47, 59, 68, 84]⟩
set_option maxHeartbeats 16000000 in
set_option maxRecDepth 100000 in
theorem f20 (N O : List (List Int)) (z z' : Bool) (extra : Int) (hl : N.length ≤ 4611686018427387904) (hl2 : ∀ r ∈ N, r.length ≤ 4611686018427387904) (ho : O.length ≤ 4611686018427387904) (ho2 : ∀ r ∈ O, r.length ≤ 4611686018427387904) :
    ACall Try.prog 20 [.agg [.pay (.rows (N)) (z), .pay (.rows (O)) (z')], .int .i64 extra] (fun r objs => ∃ l e nz, SuiR N O extra l e ∧ r = .tup [.pay (.rows l) nz, .int .i64 e] ∧ objs = []) := by
  suffices h : ACall Try.prog 20 [.agg [.pay (.rows (N)) (z), .pay (.rows (O)) (z')], .int .i64 extra] (fun r objs => ∃ l e, SuiR N O extra l e ∧ ((∃ nz, r = .tup [.pay (.rows l) nz, .int .i64 e] ∧ objs = []) ∨ ∃ nz, r = .tup [.own 0, .int .i64 e] ∧ objs = [.arr (.rows l) ⟨37, nz⟩])) by
    refine h.frz ?_
    rintro r objs ⟨l, e, h1, ⟨nz, rfl, rfl⟩ | ⟨nz, rfl, rfl⟩⟩
    · exact ⟨[], _, 0, rfl, l, e, nz, h1, rfl, rfl⟩
    · exact ⟨[0], _, 1, rfl, ⟨l, e, _, h1, rfl, rfl⟩⟩
  refine acall_intro (tyP_ok _) c20 2000 [.cell 4 22, .cell 5 27] Try.func20 rfl (by rfl) rfl (by kernel_rfl) ?_
  unfold Try.f20
  simp (config := {implicitDefEqProofs := false, maxSteps := 4000000}) (disch := omega) only [push_cast, c20, Nat.reduceAdd, Nat.reduceSub, Nat.reduceMul, Nat.reduceBEq, Int.reduceToNat, Int.reduceNeg, Int.reduceLE, Int.reduceLT, Int.reduceBEq, Int.reduceBNe, Int.reduceEq, Bool.not_true, Bool.not_false, eq_self, reduceCtorEq]
  refine callW_rel (f45 N O z z' hl hl2 ho ho2) ?_
  rintro R O' ⟨l, e, nz, h, rfl, rfl⟩
  simp (config := {implicitDefEqProofs := false, maxSteps := 4000000}) (disch := omega) only [push_cast, c20, Nat.reduceAdd, Nat.reduceSub, Nat.reduceMul, Nat.reduceBEq, Int.reduceToNat, Int.reduceNeg, Int.reduceLE, Int.reduceLT, Int.reduceBEq, Int.reduceBNe, Int.reduceEq, Bool.not_true, Bool.not_false, eq_self, reduceCtorEq]
  rcases h with ⟨a, rfl, rfl⟩ | ⟨a, b, rfl, rfl⟩ | ⟨a, b, rfl, rfl⟩
  · exact ⟨fun _ => ⟨_, _, .inl ⟨a, rfl, rfl⟩, .inl ⟨_, ⟨rfl, rfl⟩, rfl⟩⟩, fun h => by omega⟩
  · exact ⟨fun _ => ⟨_, _, .inr (.inl ⟨a, .inl b, rfl, rfl⟩), .inl ⟨_, ⟨rfl, rfl⟩, rfl⟩⟩, fun h => by omega⟩
  refine ⟨fun h => absurd rfl h, fun _ => ⟨fun h => ⟨_, _, .inr (.inl ⟨a, .inr (by omega), rfl, rfl⟩), .inl ⟨_, ⟨rfl, rfl⟩, rfl⟩⟩, fun hx0 => ⟨fun h => ⟨_, _, .inr (.inl ⟨a, .inr (by omega), rfl, rfl⟩), .inl ⟨_, ⟨rfl, rfl⟩, rfl⟩⟩, fun hx2 => ?_⟩⟩⟩
  have hV := vmB_iff.1 a
  generalize hk : (N.getD 0 []).length = k at *
  have hn1 := hV.v.n1
  have hn := hV.v.n2
  have hk2 := hV.v.k2
  refine callW_rel (f46 N O z z' k hV) ?_
  rintro R O' ⟨nzE, rfl, rfl⟩
  simp (config := {implicitDefEqProofs := false, maxSteps := 4000000}) (disch := omega) only [push_cast, c20, Nat.reduceAdd, Nat.reduceSub, Nat.reduceMul, Nat.reduceBEq, Int.reduceToNat, Int.reduceNeg, Int.reduceLE, Int.reduceLT, Int.reduceBEq, Int.reduceBNe, Int.reduceEq, Bool.not_true, Bool.not_false, eq_self, reduceCtorEq]
  have hcl : (covL N k).length = N.length := cov_len
  have hex : extra.toNat + 1 ≤ 10 := by omega
  generalize hSL : cntW (sufL N O k extra.toNat) = CN
  generalize hM : midW k (extra.toNat + 1) [] = M
  have hSL' : cntW (wB (covL N k) M (telL N O k)) = CN := by rw [← hSL, sufL, hM]
  refine awp_trie 3 rfl rfl fun b0 => ?_
  refine awp_loop (tyP_ok _) c20 2000 [1, 2, 4, 5, 8, 9, 10, 39, 40, 41] (fun n g st => ∃ (i : Nat) (T : List TN), g = (false, 0) ∧ i ≤ N.length ∧ TrS T b0 (wB ((covL N k).take i) M (telL N O k)) ∧ cntW (wB ((covL N k).take i) M (telL N O k)) ≤ 20000 ∧ n = N.length - i ∧
    st = ⟨85, [(1, .int .i64 extra), (2, .fref [.pay (.rows N) z, .pay (.rows O) z']), (4, .ref 0 0), (5, .ref 1 0), (8, .ref 2 0), (9, .mh 3 (.tn (some b0))), (10, .ref 4 0), (39, .pay (.rows (covL N k)) nz), (40, .int .i64 N.length), (41, .int .i64 i)], [.box [.lit (.slice none 0 0)], .box [.int .i64 0], .box [.pay (.rows (telL N O k)) nzE], .trie 6 T, .box [.int .i64 (cntW (wB ((covL N k).take i) M (telL N O k)))]]⟩) N.length (by kernel_rfl) ?_ ?_
  · simp (config := {implicitDefEqProofs := false, maxSteps := 4000000}) (disch := omega) only [push_cast, c20, hcl, Nat.reduceAdd, Nat.reduceSub, Nat.reduceMul, Nat.reduceBEq, Int.reduceToNat, Int.reduceNeg, Int.reduceLE, Int.reduceLT, Int.reduceBEq, Int.reduceBNe, Int.reduceEq, Bool.not_true, Bool.not_false, eq_self, reduceCtorEq]
    exact ⟨0, _, Nat.zero_le _, by simpa [wB] using TrS.init b0, by simp [wB, cntW, onceL], by omega, rfl, rfl, by simp [wB, cntW, onceL]⟩
  rintro n g st ⟨i, T, rfl, hi, hT, hcn, rfl, rfl⟩
  obtain ⟨t0, ht0, hp0⟩ := hT.root
  have hAll : allC N k = true := by rw [fitB, hk, Bool.and_eq_true] at b; exact b.1
  have hX : ∀ p ∈ M, (∀ x ∈ p, 0 ≤ x ∧ x < k) ∧ p.length ≤ 3 := fun p hp => by
    rw [← hM] at hp
    obtain ⟨h1, h2⟩ := midW_mem _ [] (by simp) p hp
    exact ⟨h1, by simpa using Nat.le_trans h2 (by simp; omega)⟩
  simp (config := {implicitDefEqProofs := false, maxSteps := 4000000}) (disch := omega) only [push_cast, c20, hcl, Nat.reduceAdd, Nat.reduceSub, Nat.reduceMul, Nat.reduceBEq, Int.reduceToNat, Int.reduceNeg, Int.reduceLE, Int.reduceLT, Int.reduceBEq, Int.reduceBNe, Int.reduceEq, Bool.not_true, Bool.not_false, eq_self, reduceCtorEq]
  refine ⟨fun hlt => ⟨hlt, ?_⟩, fun hge => ?_⟩
  · obtain ⟨hu1, hu2⟩ := covL_mem hV hAll (w := (covL N k).getD i []) (by rw [List.getD_eq_getElem?_getD, List.getElem?_eq_getElem (by omega)]; exact List.getElem_mem _)
    generalize hu : (covL N k).getD i [] = u at *
    refine lcallW_rel (f52 noY _ T b0 t0 u false hT.wt ht0 (fun x hx => by have := hu1 x hx; omega) (by omega)) ?_
    rintro g1 R A O' ⟨rfl, rfl, T1, b1, hA1, rfl, rfl⟩
    rw [hp0] at hA1
    have hT1 := hT.addT hA1 (by simp; omega)
    obtain ⟨t1, e1, p1⟩ := hA1.nd
    simp (config := {implicitDefEqProofs := false, maxSteps := 4000000}) (disch := omega) only [push_cast, c20, hcl, Nat.reduceAdd, Nat.reduceSub, Nat.reduceMul, Nat.reduceBEq, Int.reduceToNat, Int.reduceNeg, Int.reduceLE, Int.reduceLT, Int.reduceBEq, Int.reduceBNe, Int.reduceEq, Bool.not_true, Bool.not_false, eq_self, reduceCtorEq]
    have hex2 : extra + 1 = ((extra.toNat + 1 : Nat) : Int) := by omega
    generalize hnn : extra.toNat + 1 = nn at *
    rw [hk, hex2]
    refine ⟨hn1, callW_rel (f53 k nn) ?_⟩
    rintro R O' ⟨rfl, rfl⟩
    simp (config := {implicitDefEqProofs := false, maxSteps := 4000000}) (disch := omega) only [push_cast, c20, hcl, Nat.reduceAdd, Nat.reduceSub, Nat.reduceMul, Nat.reduceBEq, Int.reduceToNat, Int.reduceNeg, Int.reduceLE, Int.reduceLT, Int.reduceBEq, Int.reduceBNe, Int.reduceEq, Bool.not_true, Bool.not_false, eq_self, reduceCtorEq]
    generalize hE : telL N O k = E at *
    generalize hW0 : wB ((covL N k).take i) M E = W0 at *
    have hxl : (xsM k nn).length = M.length := by rw [xsM, List.length_map, hM]
    refine awp_range (tyP_ok _) c20 2000 (xsM k nn) [1, 2, 4, 5, 8, 9, 10, 13, 39, 40, 41] (fun j st => ∃ T2 t2, TrS T2 b0 (W0 ++ wM u (M.take j) E) ∧ ndT T2 b1 = some t2 ∧ t2.path = u ∧ cntW (W0 ++ wM u (M.take j) E) ≤ 20000 ∧
        st = ⟨85, [(1, .int .i64 extra), (2, .fref [.pay (.rows N) z, .pay (.rows O) z']), (4, .ref 0 0), (5, .ref 1 0), (8, .ref 2 0), (9, .mh 3 (.tn (some b0))), (10, .ref 4 0), (13, .ref 5 0), (39, .pay (.rows (covL N k)) nz), (40, .int .i64 N.length), (41, .int .i64 i)], [.box [.lit (.slice none 0 0)], .box [.int .i64 0], .box [.pay (.rows E) nzE], .trie 6 T2, .box [.int .i64 (cntW (W0 ++ wM u (M.take j) E))], .box [.mh 3 (.tn (some b1))]]⟩)
      (fun _ e st => e = .ret ∧ 20000 < CN ∧ ∃ T2 c b', st = ⟨85, [(1, .int .i64 extra), (2, .fref [.pay (.rows N) z, .pay (.rows O) z']), (4, .ref 0 0), (5, .ref 1 0), (8, .ref 2 0), (9, .mh 3 (.tn (some b0))), (10, .ref 4 0), (13, .ref 5 0), (39, .pay (.rows (covL N k)) nz), (40, .int .i64 N.length), (41, .int .i64 i)], [.box [.lit (.slice none 0 0)], .box [.int .i64 3], .box [.pay (.rows E) nzE], .trie 6 T2, .box [.int .i64 c], .box [.mh 3 (.tn b')]]⟩)
      (fun g' r A O => ((g' = (false, (midW k nn []).length)) ∨ g'.1 = true) ∧ A.tail = [.fref [.int .i64 k], .fref [.int .i64 nn]] ∧ O = []) rfl (by rfl) ?_ (by kernel_rfl) (by kernel_rfl) (by kernel_rfl) (by kernel_rfl) ?_ ?_ ?_ ?_
    · intro j hj
      simp [xsM, yArg]
    · intro l
      simp (config := {implicitDefEqProofs := false, maxSteps := 4000000}) (disch := omega) only [push_cast, c20, Nat.reduceAdd, Nat.reduceSub, Nat.reduceMul, Nat.reduceBEq, Int.reduceToNat, Int.reduceNeg, Int.reduceLE, Int.reduceLT, Int.reduceBEq, Int.reduceBNe, Int.reduceEq, Bool.not_true, Bool.not_false, eq_self, reduceCtorEq]
      exact f74 k nn l hk2 hex
    · simp (config := {implicitDefEqProofs := false, maxSteps := 4000000}) (disch := omega) only [push_cast, c20, Nat.reduceAdd, Nat.reduceSub, Nat.reduceMul, Nat.reduceBEq, Int.reduceToNat, Int.reduceNeg, Int.reduceLE, Int.reduceLT, Int.reduceBEq, Int.reduceBNe, Int.reduceEq, Bool.not_true, Bool.not_false, eq_self, reduceCtorEq]
      exact ⟨T1, t1, by simpa [wM] using hT1, e1, by simpa using p1, by simpa [wM] using hcn, rfl, by simp [wM]⟩
    · rintro j hj st ⟨T2, t2, hT2, e2, p2, hc2, rfl⟩
      have hjM : j < M.length := by omega
      have ex : (xsM k nn)[j] = [.pay (.ints .i64 (M.getD j [])) (M.getD j []).isEmpty] := by
        simp only [xsM, List.getElem_map, hM, yArg]
        rw [List.getD_eq_getElem?_getD, List.getElem?_eq_getElem hjM]; rfl
      rw [ex]
      simp (config := {implicitDefEqProofs := false, maxSteps := 4000000}) (disch := omega) only [push_cast, c20, Nat.reduceAdd, Nat.reduceSub, Nat.reduceMul, Nat.reduceBEq, Int.reduceToNat, Int.reduceNeg, Int.reduceLE, Int.reduceLT, Int.reduceBEq, Int.reduceBNe, Int.reduceEq, Bool.not_true, Bool.not_false, eq_self, reduceCtorEq]
      obtain ⟨hv1, hv2⟩ := hX (M.getD j []) (by rw [List.getD_eq_getElem?_getD, List.getElem?_eq_getElem hjM]; exact List.getElem_mem _)
      generalize hv : M.getD j [] = v at *
      refine lcallW_rel (f52 noY _ T2 b1 t2 v v.isEmpty hT2.wt e2 (fun x hx => by have := hv1 x hx; omega) (by omega)) ?_
      rintro g1 R A O' ⟨rfl, rfl, T3, b3, hA3, rfl, rfl⟩
      rw [p2] at hA3
      have hT3 := hT2.addT hA3 (by omega)
      obtain ⟨t3, e3, p3⟩ := hA3.nd
      have e3' := ExtT.nd hA3.wt hA3.ext e2
      simp (config := {implicitDefEqProofs := false, maxSteps := 4000000}) (disch := omega) only [push_cast, c20, Nat.reduceAdd, Nat.reduceSub, Nat.reduceMul, Nat.reduceBEq, Int.reduceToNat, Int.reduceNeg, Int.reduceLE, Int.reduceLT, Int.reduceBEq, Int.reduceBNe, Int.reduceEq, Bool.not_true, Bool.not_false, eq_self, reduceCtorEq]
      generalize hW1 : W0 ++ wM u (M.take j) E = W1 at *
      refine awp_loop (tyP_ok _) c20 2000 [1, 2, 4, 5, 8, 9, 10, 13, 15, 39, 40, 41, 60, 61, 62] (fun n g st => ∃ (e : Nat) (T4 : List TN) (t4 t5 : TN), g = (false, 0) ∧ e ≤ E.length ∧ TrS T4 b0 (W1 ++ wE u v (E.take e)) ∧ ndT T4 b1 = some t4 ∧ t4.path = u ∧ ndT T4 b3 = some t5 ∧ t5.path = u ++ v ∧ cntW (W1 ++ wE u v (E.take e)) ≤ 20000 ∧ n = E.length - e ∧
        st = ⟨85, [(1, .int .i64 extra), (2, .fref [.pay (.rows N) z, .pay (.rows O) z']), (4, .ref 0 0), (5, .ref 1 0), (8, .ref 2 0), (9, .mh 3 (.tn (some b0))), (10, .ref 4 0), (13, .ref 5 0), (15, .mh 3 (.tn (some b3))), (39, .pay (.rows (covL N k)) nz), (40, .int .i64 N.length), (41, .int .i64 i), (60, .pay (.rows E) nzE), (61, .int .i64 E.length), (62, .int .i64 e)], [.box [.lit (.slice none 0 0)], .box [.int .i64 0], .box [.pay (.rows E) nzE], .trie 6 T4, .box [.int .i64 (cntW (W1 ++ wE u v (E.take e)))], .box [.mh 3 (.tn (some b1))]]⟩) E.length (by kernel_rfl) ?_ ?_
      · simp (config := {implicitDefEqProofs := false, maxSteps := 4000000}) (disch := omega) only [push_cast, c20, Nat.reduceAdd, Nat.reduceSub, Nat.reduceMul, Nat.reduceBEq, Int.reduceToNat, Int.reduceNeg, Int.reduceLE, Int.reduceLT, Int.reduceBEq, Int.reduceBNe, Int.reduceEq, Bool.not_true, Bool.not_false, eq_self, reduceCtorEq]
        exact ⟨0, T3, t2, t3, Nat.zero_le _, by simpa [wE] using hT3, e3', p2, e3, p3, by simpa [wE] using hc2, by omega, rfl, rfl, by simp [wE]⟩
      have hEl : E.length ≤ 3600 := by rw [← hE]; exact telL_len hV
      have hmet : ∀ e, cntW (W1 ++ wE u v (E.take e)) ≤ CN := fun e => by
        have := met_le (B := covL N k) (M := M) (E := E) (i := i) (j := j) (e := e) (by omega) hjM
        rw [hSL', hu, hv, hW0, hW1] at this
        exact this
      have hW2 : W0 ++ wM u (M.take (j + 1)) E = W1 ++ wE u v E := by rw [wM_take hjM, hv, ← List.append_assoc, hW1]
      rintro n g st ⟨e, T4, t4, t5, rfl, he, hT4, e4, p4, e5, p5, hc4, rfl, rfl⟩
      simp (config := {implicitDefEqProofs := false, maxSteps := 4000000}) (disch := omega) only [push_cast, c20, Nat.reduceAdd, Nat.reduceSub, Nat.reduceMul, Nat.reduceBEq, Int.reduceToNat, Int.reduceNeg, Int.reduceLE, Int.reduceLT, Int.reduceBEq, Int.reduceBNe, Int.reduceEq, Bool.not_true, Bool.not_false, eq_self, reduceCtorEq]
      rw [hW2]
      refine ⟨fun hlt => ⟨hlt, ?_⟩, fun hge => ?_⟩
      · obtain ⟨hw1, hw2⟩ := telL_mem hV (w := E.getD e []) (by rw [hE, List.getD_eq_getElem?_getD, List.getElem?_eq_getElem hlt]; exact List.getElem_mem _)
        generalize hw : E.getD e [] = w at *
        have hWe : wE u v (E.take (e + 1)) = wE u v (E.take e) ++ [u ++ v ++ w] := by rw [wE_take hlt, hw]
        have huv : (u ++ v).length ≤ 70 := by rw [List.length_append]; omega
        refine lcallW_rel (f52 noY _ T4 b3 t5 w false hT4.wt e5 (fun x hx => by have := hw1 x hx; omega) (by omega)) ?_
        rintro g1 R A O' ⟨rfl, rfl, T5, b5, hA5, rfl, rfl⟩
        rw [p5] at hA5
        have hT5 := hT4.addT hA5 (by omega)
        obtain ⟨t6, e6, p6⟩ := hA5.nd
        have e4' := ExtT.nd hA5.wt hA5.ext e4
        have e5' := ExtT.nd hA5.wt hA5.ext e5
        have hin : inT T5 b5 := by unfold inT; rw [e6]; rfl
        have hwd := wordT_at hT5 e6
        rw [p6] at hwd
        have hm1 := hmet (e + 1)
        rw [hWe, ← List.append_assoc] at hm1
        simp (config := {implicitDefEqProofs := false, maxSteps := 4000000}) (disch := omega) only [push_cast, c20, Nat.reduceAdd, Nat.reduceSub, Nat.reduceMul, Nat.reduceBEq, Int.reduceToNat, Int.reduceNeg, Int.reduceLE, Int.reduceLT, Int.reduceBEq, Int.reduceBNe, Int.reduceEq, Bool.not_true, Bool.not_false, eq_self, reduceCtorEq]
        refine ⟨hin, fun hf => ?_, fun ht => ?_⟩
        · rw [hwd, decide_eq_false_iff_not] at hf
          have hcw := cntW_new hf
          refine ⟨hin, fun hbig => ⟨by omega, _, _, _, rfl, rfl, rfl⟩, fun hsm => ?_⟩
          obtain ⟨t4', e4'', p4'⟩ := ndT_setW (b := b5) (v := true) e4'
          obtain ⟨t5', e5'', p5'⟩ := ndT_setW (b := b5) (v := true) e5'
          have hT6 := hT5.mark e6
          rw [p6] at hT6
          exact ⟨E.length - (e + 1), by omega, e + 1, _, t4', t5', by omega, by rw [hWe, ← List.append_assoc]; exact hT6, e4'', p4'.trans p4, e5'', p5'.trans p5, by rw [hWe, ← List.append_assoc, hcw]; omega, rfl, by omega, rfl, by rw [hWe, ← List.append_assoc, hcw]; omega⟩
        · rw [hwd, decide_eq_true_eq] at ht
          have hcw := cntW_old ht
          refine ⟨fun hbig => by omega, fun hsm => ?_⟩
          exact ⟨E.length - (e + 1), by omega, e + 1, _, t4, t5, by omega, by rw [hWe, ← List.append_assoc]; exact hT5.same ht, e4', p4, e5', p5, by rw [hWe, ← List.append_assoc, hcw]; omega, rfl, by omega, rfl, by rw [hWe, ← List.append_assoc, hcw]⟩
      · have hee : E.take e = E := List.take_of_length_le (by omega)
        rw [hee] at hT4 hc4 ⊢
        exact ⟨T4, t4, hT4, e4, p4, hc4, rfl, rfl⟩
    · rintro g' r A O' ⟨hg, hA, rfl⟩
      refine ⟨fun h1 st ⟨T2, t2, hT2, e2, p2, hc2, hst⟩ => ?_, fun h1 e st ⟨he, hbig, T2, c, b', hst⟩ => ?_⟩
      · have h2 : g'.2 = M.length := by
          rcases hg with hg | hg
          · rw [hg, hM]
          · rw [h1] at hg; cases hg
        rw [h2, List.take_of_length_le (Nat.le_refl _)] at hT2 hc2 hst
        subst hst
        simp (config := {implicitDefEqProofs := false, maxSteps := 4000000}) (disch := omega) only [push_cast, c20, hA, Nat.reduceAdd, Nat.reduceSub, Nat.reduceMul, Nat.reduceBEq, Int.reduceToNat, Int.reduceNeg, Int.reduceLE, Int.reduceLT, Int.reduceBEq, Int.reduceBNe, Int.reduceEq, Bool.not_true, Bool.not_false, eq_self, reduceCtorEq]
        have hwb : wB ((covL N k).take (i + 1)) M E = W0 ++ wM u M E := by rw [wB_take (by omega), hW0, hu]
        exact ⟨N.length - (i + 1), by omega, i + 1, T2, by omega, by rw [hwb]; exact hT2, by rw [hwb]; exact hc2, rfl, by omega, rfl, by rw [hwb]⟩
      · subst he hst
        simp (config := {implicitDefEqProofs := false, maxSteps := 4000000}) (disch := omega) only [push_cast, c20, hA, Nat.reduceAdd, Nat.reduceSub, Nat.reduceMul, Nat.reduceBEq, Int.reduceToNat, Int.reduceNeg, Int.reduceLE, Int.reduceLT, Int.reduceBEq, Int.reduceBNe, Int.reduceEq, Bool.not_true, Bool.not_false, eq_self, reduceCtorEq]
        exact ⟨[], 3, .inr (.inr (.inl ⟨a, b, ⟨hx0, hx2⟩, by rw [hk, hSL]; exact hbig, rfl, rfl⟩)), .inl ⟨true, ⟨rfl, rfl⟩, rfl⟩⟩
  · have hdl : (dfsT T 10000 []).length ≤ 20000 := by
      rw [hT.dfs (Nat.le_refl _)]; exact hcn
    refine lcallW_rel (GCall.nilA 2 (.rows []) 37 rfl rfl (GCall.nilP 1 (.ints .i64 []) rfl rfl (f54 10000 noY _ T b0 t0 [] true [] ⟨37, true⟩ rfl hT.wt ht0 hp0 (fun s hs => by simpa using hT.dep s hs) (by simp) (by simp; omega)))) ?_
    rintro g1 R A O' ⟨rfl, rfl, rfl, rfl⟩
    have hiN : i = N.length := by omega
    subst hiN
    have hall : wB ((covL N k).take N.length) M (telL N O k) = sufL N O k extra.toNat := by
      rw [sufL, hM, List.take_of_length_le (by omega)]
    rw [hall] at hT hcn
    simp (config := {implicitDefEqProofs := false, maxSteps := 4000000}) (disch := omega) only [push_cast, c20, hcl, Nat.reduceAdd, Nat.reduceSub, Nat.reduceMul, Nat.reduceBEq, Int.reduceToNat, Int.reduceNeg, Int.reduceLE, Int.reduceLT, Int.reduceBEq, Int.reduceBNe, Int.reduceEq, Bool.not_true, Bool.not_false, eq_self, reduceCtorEq]
    exact ⟨_, _, .inr (.inr (.inr ⟨a, b, ⟨hx0, hx2⟩, by rw [hk]; exact hcn, rfl, rfl⟩)), .inr ⟨true, rfl, by rw [hk]; exact hT.dfs (Nat.le_refl _), rfl⟩⟩
end Go.AM
end

/-! text Uk24 -/
section
namespace Go.AM
open Go Go.Proofs Go.Sort
/-- the bounds that a narrow machine has -/
theorem nb {N O : List (List Int)} (h : (N.length ≤ 100 ∧ ∀ r ∈ N, r.length ≤ 100) ∧ O.length ≤ 100 ∧ ∀ r ∈ O, r.length ≤ 100) : (N.length ≤ 4611686018427387904 ∧ ∀ r ∈ N, r.length ≤ 4611686018427387904) ∧ O.length ≤ 4611686018427387904 ∧ ∀ r ∈ O, r.length ≤ 4611686018427387904 :=
  ⟨⟨by have := h.1.1; omega, fun r hr => by have := h.1.2 r hr; omega⟩, by have := h.2.1; omega, fun r hr => by have := h.2.2 r hr; omega⟩
/-! the example of the chapter -/
abbrev N2 : List (List Int) := [[1, 0], [0, 1]]
abbrev O2 : List (List Int) := [[0, 1], [0, 0]]
theorem VM2 : VM N2 O2 2 := ⟨⟨by decide, by decide, by decide, by decide, by decide⟩, by decide, by decide⟩
theorem vm2 : vmB N2 O2 = true := vmB_iff.2 VM2
theorem fit2 : fitB N2 O2 = true := by decide
theorem cov2 : covL N2 2 = [[], [0]] := by decide
theorem tel2 : telL N2 O2 2 = [[1]] := by
  have h : TellR N2 O2 N2 O2 0 1 2 [1] true := .inl ⟨0, 1, by decide, by decide, by decide, by decide, by omega, by decide, rfl⟩
  have h1 := tellW_eq h
  have h2 : prs N2.length 0 = [(0, 1)] := by decide
  rw [telL, if_neg (by decide), h2, tws, List.map_cons, List.map_nil]
  have h3 : tellW N2 O2 2 ((0, 1) : Nat × Nat).1 ((0, 1) : Nat × Nat).2 = [1] := h1.symm
  rw [h3]; decide
theorem suf2 : sufL N2 O2 2 0 = wB [[], [0]] (midW 2 1 []) [[1]] := by rw [sufL, cov2, tel2]
theorem once2 : onceL (sufL N2 O2 2 0) = [[0, 0, 1], [0, 1], [0, 1, 1], [1], [1, 1]] := by rw [suf2]; decide
theorem sui2 {l : List (List Int)} {e : Int} (h : SuiR N2 O2 0 l e) : e = 0 ∧ l = [[0, 0, 1], [0, 1], [0, 1, 1], [1], [1, 1]] := by
  have e1 : (N2.getD 0 []).length = 2 := rfl
  unfold SuiR at h
  rw [vm2, fit2, e1, show (0 : Int).toNat = 0 from rfl, cntW, once2] at h
  rcases h with ⟨h, _⟩ | ⟨_, h | h, _⟩ | ⟨_, _, _, h, _⟩ | ⟨_, _, _, _, h1, h2⟩
  · cases h
  · cases h
  · omega
  · simp at h
  · exact ⟨h1, h2⟩
/- mizmaze/mizmazelaw09.awake -/
theorem mem_at {l : List (List Int)} {x : List Int} (h : x ∈ l) : ∃ p, p < l.length ∧ l.getD p [] = x := by
  obtain ⟨p, hp, rfl⟩ := List.getElem_of_mem h
  exact ⟨p, hp, by simp [List.getD, hp]⟩
theorem fit_all {N O : List (List Int)} (hf : fitB N O = true) : allC N (N.getD 0 []).length = true := by rw [fitB, Bool.and_eq_true] at hf; exact hf.1
end Go.AM
end

/-
  Contracts of the walk, Outs, Run, ClassesOf, Classes and Minimal; conditions in each statement.
-/
import Derived.Test.YtdfocobojkmenaaS2
import Derived.Test.YtdfocobojkmenaaP2
import Derived.Test.YtdfocobojkmenaaF5
set_option linter.unusedVariables false
set_option linter.unusedSimpArgs false
set_option linter.unusedSectionVars false
set_option linter.unnecessarySimpa false

/-! text Uk6 -/
section
namespace Go.AM
open Go Go.Proofs
def xsO (N O : List (List Int)) (s : Int) (w : List Int) : List (List AV) := (outsG N O s w).map fun y => [.int .i64 y]
theorem xsO_len (N O : List (List Int)) (s : Int) (w : List Int) : (xsO N O s w).length = w.length := by simp [xsO, outsG_len]
theorem outsG_get {N O : List (List Int)} : ∀ {w : List Int} {s : Int} {i : Nat}, i < w.length → (outsG N O s w).getD i 0 = outG O (leadG N s (w.take i)) (w.getD i 0)
  | x :: w, s, 0, _ => by simp [outsG, leadG]
  | x :: w, s, i + 1, h => by
    have := outsG_get (N := N) (O := O) (w := w) (s := nxG N s x) (i := i) (by simpa using h)
    simp only [outsG, List.getD_cons_succ, this, List.take_succ_cons, leadG]
    rfl
/- (*mizmaze/mealy.walk).steps$1 -/
def c95 : VCfg := ⟨⟨[], [], [], [0, 1, 2, 5, 6, 7, 8, 9, 10, 47]⟩, [(3, (.op 0 .loose (.op 1 .loose (.op 2 .loose (.op 3 .loose (.op 4 .loose (.op 5 .loose (.op 6 .loose (.op 7 .loose (.op 8 .loose (.op 9 .loose (.op 10 .loose (.op 11 .loose (.op 12 .loose (.op 13 .loose (.op 14 .loose .nil)))))))))))))))), (4, (.op 0 .loose (.op 1 .loose (.op 2 .loose (.op 3 .loose (.op 4 .loose (.op 5 .loose (.op 6 .loose (.op 7 .loose (.op 8 .loose (.op 9 .loose (.op 10 .loose (.op 11 .loose (.op 12 .loose (.op 13 .loose (.op 14 .loose (.op 15 .strict (.op 16 .loose (.op 17 .eff .nil)))))))))))))))))))], [], [46]⟩
def O95 (N O : List (List Int)) (z z' : Bool) (s : Int) : List AObj := [.box [.pay (.rows N) z, .pay (.rows O) z', .int .i64 s]]
set_option maxRecDepth 100000 in
theorem f95 (l : Nat) (N O : List (List Int)) (z z' y : Bool) (s : Int) (w : List Int) (k : Nat) (hV : VM N O k) (hs : 0 ≤ s ∧ s < N.length) (hw : ∀ x ∈ w, 0 ≤ x ∧ x < k) (hl : w.length ≤ 4611686018427387904) :
    GCall Try.prog ⟨l, xsO N O s w⟩ 95 (false, 0) [.lit (.func (.yield l) #[] #[]), .fref [.pay (.ints .i64 w) y], .hbox (.ref 0 0)] (O95 N O z z' s) (fun g' _ A O' => (g'.1 = false → g'.2 = w.length ∧ O' = O95 N O z z' (leadG N s w)) ∧ A.tail = [.fref [.pay (.ints .i64 w) y], .hbox (.ref 0 0)]) := by
  unfold O95
  refine gcall_intro (tyP_ok _) c95 2000 [] [0, 1, 2] Try.func95 rfl (by rfl) rfl (by rfl) (by kernel_rfl) (by kernel_rfl) ?_
  unfold Try.f95
  simp (config := {implicitDefEqProofs := false, maxSteps := 4000000}) (disch := omega) only [push_cast, c95, Nat.reduceAdd, Nat.reduceSub, Nat.reduceMul, Nat.reduceBEq, Int.reduceToNat, Int.reduceNeg, Int.reduceLE, Int.reduceLT, Int.reduceBEq, Int.reduceBNe, Int.reduceEq, Bool.not_true, Bool.not_false, eq_self, reduceCtorEq]
  refine awp_loop (tyP_ok _) c95 2000 [0, 1, 2, 7, 8, 9] (fun n g st => ∃ i : Nat, g = (false, i) ∧ i ≤ w.length ∧ n = w.length - i ∧ st = ⟨49, [(0, .lit (.func (.yield l) #[] #[])), (1, .fref [.pay (.ints .i64 w) y]), (2, .hbox (.ref 0 0)), (7, .pay (.ints .i64 w) y), (8, .int .i64 w.length), (9, .int .i64 i)], [.box [.pay (.rows N) z, .pay (.rows O) z', .int .i64 (leadG N s (w.take i))]]⟩) w.length (by kernel_rfl) ?_ ?_
  · exact ⟨0, rfl, by omega, rfl, rfl⟩
  rintro n g st ⟨i, rfl, hi, rfl, rfl⟩
  simp (config := {implicitDefEqProofs := false, maxSteps := 4000000}) (disch := omega) only [push_cast, c95, Nat.reduceAdd, Nat.reduceSub, Nat.reduceMul, Nat.reduceBEq, Int.reduceToNat, Int.reduceNeg, Int.reduceLE, Int.reduceLT, Int.reduceBEq, Int.reduceBNe, Int.reduceEq, Bool.not_true, Bool.not_false, eq_self, reduceCtorEq]
  refine ⟨fun hlt => ?_, fun hge => ⟨by omega, by rw [List.take_of_length_le hge]⟩⟩
  have hlead := hV.v.lead (w.take i) hs.1 hs.2 fun x hx => hw x (List.mem_of_mem_take hx)
  have hx1 := hw _ (getD_mem hlt)
  have hat := hV.v.at hlead.1 hlead.2 hx1.1 hx1.2
  have hou := hV.out hlead.1 hlead.2 hx1.1 hx1.2
  have hol := hV.ol
  refine ⟨hlt, ⟨hlead.1, by omega⟩, ⟨hx1.1, by rw [hou.1]; exact hx1.2⟩, hlead, ⟨hx1.1, by rw [hat.1]; exact hx1.2⟩, ⟨by rw [xsO_len]; exact hlt, ?_⟩, w.length - (i + 1), by omega, i + 1, rfl, by omega, rfl, rfl, ?_⟩
  · simp only [xsO, List.getElem_map]
    have h1 := outsG_get (N := N) (O := O) (s := s) hlt
    have h2 : i < (outsG N O s w).length := by rw [outsG_len]; exact hlt
    rw [show (outsG N O s w)[i] = (outsG N O s w).getD i 0 by simp [h2], h1]
    rfl
  · exact (leadG_take N s w i hlt).symm
/- (*mizmaze/mealy.walk).steps -/
def c84 : VCfg := ⟨⟨[], [], [], [0, 1, 2, 3, 4]⟩, [], [], []⟩
theorem f84 (y0 : Yc) (g : Gh) (N O : List (List Int)) (z z' y : Bool) (s : Int) (w : List Int) :
    GCall Try.prog y0 84 g [.ref 0 0, .pay (.ints .i64 w) y] (O95 N O z z' s) (fun g' r A O' => g' = g ∧ r = .clo 95 [.fref [.pay (.ints .i64 w) y], .hbox (.ref 0 0)] ∧ A = [.ref 0 0, .pay (.ints .i64 w) y] ∧ O' = O95 N O z z' s) := by
  unfold O95
  refine gcall_intro (tyP_ok _) c84 2000 [.tmp 4] [0, 1] Try.func84 rfl (by rfl) rfl (by rfl) (by kernel_rfl) (by kernel_rfl) ?_
  unfold Try.f84
  simp (config := {implicitDefEqProofs := false, maxSteps := 4000000}) (disch := omega) only [push_cast, c84, Nat.reduceAdd, Nat.reduceSub, Nat.reduceMul, Nat.reduceBEq, Int.reduceToNat, Int.reduceNeg, Int.reduceLE, Int.reduceLT, Int.reduceBEq, Int.reduceBNe, Int.reduceEq, Bool.not_true, Bool.not_false, eq_self, reduceCtorEq]
/- slices.AppendSeq[[]int,int] -/
def c94 : VCfg := ⟨⟨[2], [], [], [0, 1, 2, 4, 5, 6, 7]⟩, [], [], []⟩
set_option maxHeartbeats 4000000 in
set_option maxRecDepth 100000 in
theorem f94 (N O : List (List Int)) (z z' y : Bool) (s : Int) (w : List Int) (k : Nat) (hV : VM N O k) (hs : 0 ≤ s ∧ s < N.length) (hw : ∀ x ∈ w, 0 ≤ x ∧ x < k) (hl : w.length ≤ 140737488355) :
    GCall Try.prog noY 94 (false, 0) [.lit (.slice none 0 0), .clo 95 [.fref [.pay (.ints .i64 w) y], .hbox (.ref 0 0)]] (O95 N O z z' s)
      (fun g' r A O' => g' = (false, 0) ∧ r = .own 0 ∧ A = [.junk, .clo 95 [.fref [.pay (.ints .i64 w) y], .hbox (.ref 1 0)]] ∧ O' = .arr (.ints .i64 (outsG N O s w)) ⟨3, true⟩ :: O95 N O z z' (leadG N s w)) := by
  unfold O95
  refine gcall_intro (tyP_ok _) c94 2000 [.tmp 4] [0, 1] Try.func94 rfl (by rfl) rfl (by rfl) (by kernel_rfl) (by kernel_rfl) ?_
  unfold Try.f94
  simp (config := {implicitDefEqProofs := false, maxSteps := 4000000}) (disch := omega) only [push_cast, c94, Nat.reduceAdd, Nat.reduceSub, Nat.reduceMul, Nat.reduceBEq, Int.reduceToNat, Int.reduceNeg, Int.reduceLE, Int.reduceLT, Int.reduceBEq, Int.reduceBNe, Int.reduceEq, Bool.not_true, Bool.not_false, eq_self, reduceCtorEq]
  refine awp_virt (i := 1) (c := 0) (p := .ints .i64 []) 3 rfl rfl rfl ?_
  refine awp_range (tyP_ok _) c94 2000 (xsO N O s w) [1, 2, 4] (fun j st => j ≤ w.length ∧ st = ⟨13, [(1, .clo 95 [.fref [.pay (.ints .i64 w) y], .hbox .junk]), (2, .ref 0 0), (4, .pay (.ints .i64 []) true)], [.box [.own 1], .arr (.ints .i64 ((outsG N O s w).take j)) ⟨3, true⟩]⟩)
      (fun _ _ _ => False) (fun g' _ A O' => (g'.1 = false → g'.2 = w.length ∧ O' = O95 N O z z' (leadG N s w)) ∧ A.tail = [.fref [.pay (.ints .i64 w) y], .hbox (.ref 0 0)]) rfl (by rfl) ?_ (by kernel_rfl) (by kernel_rfl) (by kernel_rfl) (by kernel_rfl) ?_ ?_ ?_ ?_
  · intro j hj
    simp [xsO]
  · intro l
    simp (config := {implicitDefEqProofs := false, maxSteps := 4000000}) (disch := omega) only [push_cast, c94, Nat.reduceAdd, Nat.reduceSub, Nat.reduceMul, Nat.reduceBEq, Int.reduceToNat, Int.reduceNeg, Int.reduceLE, Int.reduceLT, Int.reduceBEq, Int.reduceBNe, Int.reduceEq, Bool.not_true, Bool.not_false, eq_self, reduceCtorEq]
    exact f95 l N O z z' y s w k hV hs hw (by omega)
  · simp (config := {implicitDefEqProofs := false, maxSteps := 4000000}) (disch := omega) only [push_cast, c94, Nat.reduceAdd, Nat.reduceSub, Nat.reduceMul, Nat.reduceBEq, Int.reduceToNat, Int.reduceNeg, Int.reduceLE, Int.reduceLT, Int.reduceBEq, Int.reduceBNe, Int.reduceEq, Bool.not_true, Bool.not_false, eq_self, reduceCtorEq]
    exact Nat.zero_le _
  · intro j hj st hI
    obtain ⟨hjl, rfl⟩ := hI
    have e : (xsO N O s w)[j] = [.int .i64 ((outsG N O s w).getD j 0)] := by
      have : j < (outsG N O s w).length := by simpa [xsO] using hj
      simp [xsO, List.getD, this]
    rw [e]
    have hj' : j < (outsG N O s w).length := by simpa [xsO] using hj
    have hwl : j < w.length := by rw [outsG_len] at hj'; exact hj'
    simp (config := {implicitDefEqProofs := false, maxSteps := 4000000}) (disch := omega) only [push_cast, c94, Nat.reduceAdd, Nat.reduceSub, Nat.reduceMul, Nat.reduceBEq, Int.reduceToNat, Int.reduceNeg, Int.reduceLE, Int.reduceLT, Int.reduceBEq, Int.reduceBNe, Int.reduceEq, Bool.not_true, Bool.not_false, eq_self, reduceCtorEq]
    refine ⟨by rw [List.length_take]; omega, by omega, ?_⟩
    rw [List.take_succ_eq_append_getElem hj']
    simp [hj']
  · rintro g' r A O' ⟨hg, hA⟩
    refine ⟨fun h1 st ⟨hp, hst⟩ => ?_, fun _ _ _ h => h.elim⟩
    obtain ⟨h2, rfl⟩ := hg h1
    subst hst
    rw [h2, List.take_of_length_le (by rw [outsG_len]; omega)]
    simp (config := {implicitDefEqProofs := false, maxSteps := 4000000}) (disch := omega) only [push_cast, c94, hA, O95, Nat.reduceAdd, Nat.reduceSub, Nat.reduceMul, Nat.reduceBEq, Int.reduceToNat, Int.reduceNeg, Int.reduceLE, Int.reduceLT, Int.reduceBEq, Int.reduceBNe, Int.reduceEq, Bool.not_true, Bool.not_false, eq_self, reduceCtorEq]
/- slices.Collect[int] -/
def c83 : VCfg := ⟨⟨[], [], [], [0, 2]⟩, [], [94], [4]⟩
set_option maxRecDepth 100000 in
theorem f83 (N O : List (List Int)) (z z' y : Bool) (s : Int) (w : List Int) (k : Nat) (hV : VM N O k) (hs : 0 ≤ s ∧ s < N.length) (hw : ∀ x ∈ w, 0 ≤ x ∧ x < k) (hl : w.length ≤ 140737488355) :
    GCall Try.prog noY 83 (false, 0) [.clo 95 [.fref [.pay (.ints .i64 w) y], .hbox (.ref 0 0)]] (O95 N O z z' s)
      (fun g' r A O' => g' = (false, 0) ∧ r = .own 0 ∧ A = [.clo 95 [.fref [.pay (.ints .i64 w) y], .hbox (.ref 1 0)]] ∧ O' = .arr (.ints .i64 (outsG N O s w)) ⟨3, true⟩ :: O95 N O z z' (leadG N s w)) := by
  have h := f94 N O z z' y s w k hV hs hw hl
  unfold O95 at h ⊢
  refine gcall_intro (tyP_ok _) c83 2000 [.tmp 2] [0] Try.func83 rfl (by rfl) rfl (by rfl) (by kernel_rfl) (by kernel_rfl) ?_
  unfold Try.f83
  simp (config := {implicitDefEqProofs := false, maxSteps := 4000000}) (disch := omega) only [push_cast, c83, Nat.reduceAdd, Nat.reduceSub, Nat.reduceMul, Nat.reduceBEq, Int.reduceToNat, Int.reduceNeg, Int.reduceLE, Int.reduceLT, Int.reduceBEq, Int.reduceBNe, Int.reduceEq, Bool.not_true, Bool.not_false, eq_self, reduceCtorEq]
  refine lcallW_eq _ _ _ h ?_
  simp (config := {implicitDefEqProofs := false, maxSteps := 4000000}) (disch := omega) only [push_cast, c83, Nat.reduceAdd, Nat.reduceSub, Nat.reduceMul, Nat.reduceBEq, Int.reduceToNat, Int.reduceNeg, Int.reduceLE, Int.reduceLT, Int.reduceBEq, Int.reduceBNe, Int.reduceEq, Bool.not_true, Bool.not_false, eq_self, reduceCtorEq]
/- mizmaze/mealy.Outs -/
def c61 : VCfg := ⟨⟨[13], [], [], [0, 1, 2, 3, 6, 7, 8, 9]⟩, [(3, (.op 0 .loose (.op 1 .loose (.op 2 .loose (.op 3 .loose (.op 4 .loose (.op 5 .loose (.op 6 .loose .nil))))))))], [84, 83], [16, 17]⟩
set_option maxRecDepth 100000 in
theorem f61 (N O : List (List Int)) (z z' y : Bool) (s : Int) (w : List Int) (k : Nat) (hV : VM N O k) (hs : 0 ≤ s ∧ s < N.length) (hw : ∀ x ∈ w, 0 ≤ x ∧ x < k) (hl : w.length ≤ 140737488355) :
    ACall Try.prog 61 [.agg [.pay (.rows (N)) (z), .pay (.rows (O)) (z')], .int .i64 s, .pay (.ints .i64 w) y] (fun r objs => r = .tup [.pay (.ints .i64 (outsG N O s w)) true, .int .i64 (leadG N s w)] ∧ objs = []) := by
  suffices h : ACall Try.prog 61 [.agg [.pay (.rows (N)) (z), .pay (.rows (O)) (z')], .int .i64 s, .pay (.ints .i64 w) y] (fun r objs => r = .tup [.own 0, .int .i64 (leadG N s w)] ∧ objs = [.arr (.ints .i64 (outsG N O s w)) ⟨3, true⟩]) by
    refine h.frz ?_
    rintro r objs ⟨rfl, rfl⟩
    exact ⟨[0], _, 1, rfl, rfl, rfl⟩
  have h1 := f84 noY (false, 0) N O z z' y s w
  have h2 := f83 N O z z' y s w k hV hs hw hl
  unfold O95 at h1 h2
  refine acall_intro (tyP_ok _) c61 2000 [.tmp 6, .tmp 7] Try.func61 rfl (by rfl) rfl (by kernel_rfl) ?_
  unfold Try.f61
  simp (config := {implicitDefEqProofs := false, maxSteps := 4000000}) (disch := omega) only [push_cast, c61, Nat.reduceAdd, Nat.reduceSub, Nat.reduceMul, Nat.reduceBEq, Int.reduceToNat, Int.reduceNeg, Int.reduceLE, Int.reduceLT, Int.reduceBEq, Int.reduceBNe, Int.reduceEq, Bool.not_true, Bool.not_false, eq_self, reduceCtorEq]
  refine lcallW_eq _ _ _ h1 ?_
  simp (config := {implicitDefEqProofs := false, maxSteps := 4000000}) (disch := omega) only [push_cast, c61, Nat.reduceAdd, Nat.reduceSub, Nat.reduceMul, Nat.reduceBEq, Int.reduceToNat, Int.reduceNeg, Int.reduceLE, Int.reduceLT, Int.reduceBEq, Int.reduceBNe, Int.reduceEq, Bool.not_true, Bool.not_false, eq_self, reduceCtorEq]
  refine lcallW_eq _ _ _ h2 ?_
  simp (config := {implicitDefEqProofs := false, maxSteps := 4000000}) (disch := omega) only [push_cast, c61, Nat.reduceAdd, Nat.reduceSub, Nat.reduceMul, Nat.reduceBEq, Int.reduceToNat, Int.reduceNeg, Int.reduceLE, Int.reduceLT, Int.reduceBEq, Int.reduceBNe, Int.reduceEq, Bool.not_true, Bool.not_false, eq_self, reduceCtorEq]

end Go.AM
end

/-! text Uk7 -/
section
namespace Go.AM
open Go Go.Proofs
/-- what Run answers -/
def RunMR (N O : List (List Int)) (s : Int) (w : List Int) (out : List Int) (t e : Int) : Prop :=
  (vmB N O = false ∧ e = 1 ∧ t = 0 ∧ out = []) ∨ (vmB N O = true ∧ ¬ ((0 ≤ s ∧ s < N.length) ∧ wordB (N.getD 0 []).length w = true) ∧ e = 2 ∧ t = 0 ∧ out = []) ∨
  (vmB N O = true ∧ ((0 ≤ s ∧ s < N.length) ∧ wordB (N.getD 0 []).length w = true) ∧ e = 0 ∧ t = leadG N s w ∧ out = outsG N O s w)
theorem RunMR.e0 {N O : List (List Int)} {s : Int} {w out : List Int} {t e : Int} (h : RunMR N O s w out t e) (he : e = 0) : vmB N O = true ∧ ((0 ≤ s ∧ s < N.length) ∧ wordB (N.getD 0 []).length w = true) ∧ t = leadG N s w ∧ out = outsG N O s w := by
  rcases h with ⟨_, h, _⟩ | ⟨_, _, h, _⟩ | ⟨h1, h2, _, h3, h4⟩
  · omega
  · omega
  · exact ⟨h1, h2, h3, h4⟩
theorem RunMR.ok {N O : List (List Int)} {s : Int} {w out : List Int} {t e : Int} (h : RunMR N O s w out t e) (h1 : vmB N O = true) (h2 : (0 ≤ s ∧ s < N.length) ∧ wordB (N.getD 0 []).length w = true) : e = 0 ∧ t = leadG N s w ∧ out = outsG N O s w := by
  rcases h with ⟨h, _⟩ | ⟨_, h, _⟩ | ⟨_, _, h⟩
  · rw [h1] at h; cases h
  · exact absurd h2 h
  · exact h
/- mizmaze/mealy.Run -/
end Go.AM
end

/-! text Uk8 -/
section
namespace Go.AM
open Go Go.Proofs
def rowS (N O : List (List Int)) (k : Nat) (c : List Int) (s : Nat) : List Int := rowK N O c s k
/- mizmaze/mealy.refined -/
def c86 : VCfg := ⟨⟨[], [9], [7], [0, 1, 2, 4, 5, 6, 7, 8, 9, 10, 11, 13, 17, 18, 19, 30, 31, 32, 33, 65]⟩, [(10, (.op 0 .loose (.op 1 .loose (.op 2 .loose (.op 3 .strict (.op 4 .strict (.op 5 .strict (.op 6 .loose (.op 7 .loose (.op 8 .loose (.op 9 .loose (.op 10 .strict (.op 11 .strict (.op 12 .strict (.op 13 .strict (.op 14 .strict (.op 15 .strict (.op 16 .strict (.op 17 .strict (.op 18 .loose (.op 19 .eff (.op 20 .loose (.op 21 .eff .nil)))))))))))))))))))))))], [], []⟩
def O86 (out : List Int) (m : List (List Int × Int)) : List AObj := [.mapI .arr m, .arr (.ints .i64 out) ⟨3, true⟩]
set_option maxHeartbeats 4000000 in
set_option maxRecDepth 100000 in
theorem f86 (N O : List (List Int)) (z z' y : Bool) (c : List Int) (k : Nat) (hV : VM N O k) (hc : c.length = N.length) :
    ACall Try.prog 86 [.agg [.pay (.rows (N)) (z), .pay (.rows (O)) (z')], .pay (.ints .i64 c) y] (fun r objs => r = .tup [.pay (.ints .i64 ((List.range N.length).map fun s => ((numF (keyE (rowS N O k c)) s : Nat) : Int))) true, .int .i64 (cntF (keyE (rowS N O k c)) N.length)] ∧ objs = []) := by
  suffices h : ACall Try.prog 86 [.agg [.pay (.rows (N)) (z), .pay (.rows (O)) (z')], .pay (.ints .i64 c) y] (fun r objs => r = .tup [.own 0, .int .i64 (cntF (keyE (rowS N O k c)) N.length)] ∧ objs = [.arr (.ints .i64 ((List.range N.length).map fun s => ((numF (keyE (rowS N O k c)) s : Nat) : Int))) ⟨3, true⟩]) by
    refine h.frz ?_
    rintro r objs ⟨rfl, rfl⟩
    exact ⟨[0], _, 1, rfl, rfl, rfl⟩
  have hn := hV.v.n2
  have hk2 := hV.v.k2
  have hol := hV.ol
  generalize hf : rowS N O k c = f
  have hfl : ∀ t, (f t).length = 13 := fun t => by rw [← hf]; exact rowA_len _ _ _ _
  refine acall_intro (tyP_ok _) c86 2000 [.tmp 4, .tmp 5] Try.func86 rfl (by rfl) rfl (by kernel_rfl) ?_
  unfold Try.f86
  simp (config := {implicitDefEqProofs := false, maxSteps := 4000000}) (disch := omega) only [push_cast, c86, Nat.reduceAdd, Nat.reduceSub, Nat.reduceMul, Nat.reduceBEq, Int.reduceToNat, Int.reduceNeg, Int.reduceLE, Int.reduceLT, Int.reduceBEq, Int.reduceBNe, Int.reduceEq, Bool.not_true, Bool.not_false, eq_self, reduceCtorEq]
  refine awp_upto (tyP_ok _) c86 2000 [1, 2, 4, 5, 6, 7, 17, 18] (N.length) (fun _ => True) (fun i => ⟨80, [(1, .pay (.ints .i64 c) y), (2, .fref [.pay (.rows N) z, .pay (.rows O) z']), (4, .pay (.ints .i64 []) true), (5, .int .i64 0), (6, .mapr 0), (7, .own 1), (17, .int .i64 N.length), (18, .int .i64 i)], O86 ((List.range i).map fun s => ((numF (keyE f) s : Nat) : Int)) (mapR f i)⟩) (by kernel_rfl) ?_ ?_ ?_
  · simp (config := {implicitDefEqProofs := false, maxSteps := 4000000}) (disch := omega) only [push_cast, c86, O86, Nat.reduceAdd, Nat.reduceSub, Nat.reduceMul, Nat.reduceBEq, Int.reduceToNat, Int.reduceNeg, Int.reduceLE, Int.reduceLT, Int.reduceBEq, Int.reduceBNe, Int.reduceEq, Bool.not_true, Bool.not_false, eq_self, reduceCtorEq]
    exact ⟨rfl, rfl⟩
  · trivial
  intro i hi _
  simp (config := {implicitDefEqProofs := false, maxSteps := 4000000}) (disch := omega) only [push_cast, c86, O86, Nat.reduceAdd, Nat.reduceSub, Nat.reduceMul, Nat.reduceBEq, Int.reduceToNat, Int.reduceNeg, Int.reduceLE, Int.reduceLT, Int.reduceBEq, Int.reduceBNe, Int.reduceEq, Bool.not_true, Bool.not_false, eq_self, reduceCtorEq]
  refine ⟨fun hlt => ?_, fun hge => ?_⟩
  · have hn1 : (N.getD i []).length = k := (hV.v.row _ (getD_mem' hlt)).1
    have ho1 : (O.getD i []).length = k := (hV.orow _ (getD_mem' (by omega))).1
    have hrow := hV.v.row _ (getD_mem' hlt)
    rw [hn1]
    refine ⟨by omega, hlt, ?_⟩
    refine awp_upto (tyP_ok _) c86 2000 [1, 2, 4, 5, 6, 7, 8, 9, 17, 18, 30, 31, 32] (k) (fun _ => True) (fun x => ⟨80, [(1, .pay (.ints .i64 c) y), (2, .fref [.pay (.rows N) z, .pay (.rows O) z']), (4, .pay (.ints .i64 []) true), (5, .int .i64 0), (6, .mapr 0), (7, .own 1), (8, .int .i64 i), (9, .ref 2 0), (17, .int .i64 N.length), (18, .int .i64 i), (30, .pay (.ints .i64 (N.getD i [])) false), (31, .int .i64 k), (32, .int .i64 x)], O86 ((List.range i).map fun s => ((numF (keyE f) s : Nat) : Int)) (mapR f i) ++ [.arr (.ints .i64 (rowK N O c i x)) ⟨126, false⟩]⟩) (by kernel_rfl) ?_ ?_ ?_
    · simp (config := {implicitDefEqProofs := false, maxSteps := 4000000}) (disch := omega) only [push_cast, c86, O86, Nat.reduceAdd, Nat.reduceSub, Nat.reduceMul, Nat.reduceBEq, Int.reduceToNat, Int.reduceNeg, Int.reduceLE, Int.reduceLT, Int.reduceBEq, Int.reduceBNe, Int.reduceEq, Bool.not_true, Bool.not_false, eq_self, reduceCtorEq]
      rfl
    · trivial
    intro x hx _
    have hrl : (rowK N O c i x).length = 13 := rowA_len _ _ _ _
    simp (config := {implicitDefEqProofs := false, maxSteps := 4000000}) (disch := omega) only [push_cast, c86, O86, hrl, Nat.reduceAdd, Nat.reduceSub, Nat.reduceMul, Nat.reduceBEq, Int.reduceToNat, Int.reduceNeg, Int.reduceLE, Int.reduceLT, Int.reduceBEq, Int.reduceBNe, Int.reduceEq, Bool.not_true, Bool.not_false, eq_self, reduceCtorEq]
    refine ⟨fun hxk => ?_, fun hxk => ?_⟩
    · have hx1 := hrow.2 _ (getD_mem (show x < (N.getD i []).length by omega))
      have e1 : (1 + 2 * (x : Int)).toNat = 1 + 2 * x := by omega
      have e2 : (2 + 2 * (x : Int)).toNat = 2 + 2 * x := by omega
      rw [e1, e2, List.length_set, hrl]
      refine ⟨by omega, ⟨hx1.1, by omega⟩, by omega, by omega, ⟨⟨by omega, by omega⟩, by omega⟩, ⟨⟨by omega, by omega⟩, by omega⟩, hxk, ?_⟩
      simp [rowK, rowA, nxG, outG]
    · have hxe : x = k := by omega
      subst hxe
      have hfi : rowK N O c i x = f i := by rw [← hf]; rfl
      have hks := mapR_keys f hfl i
      have hks1 := mapR_keys f hfl (i + 1)
      have hmp : (List.range i).map (fun s => ((numF (keyE f) s : Nat) : Int)) ++ [((numF (keyE f) i : Nat) : Int)] = (List.range (i + 1)).map (fun s => ((numF (keyE f) s : Nat) : Int)) := by simp [List.range_succ]
      rw [hfi]
      refine ⟨hks, fun hnew => ?_, fun hold => ?_⟩
      · have hF : isF (keyE f) i = true := by
          cases e : isF (keyE f) i with
          | true => rfl
          | false => rw [(mapR_old f e).1] at hnew; cases hnew
        obtain ⟨g1, g2, g3⟩ := mapR_new f hF
        rw [g2, g3]
        exact ⟨hks, hks1, by simp; omega, hlt, rfl, hmp⟩
      · have hF : isF (keyE f) i = false := by
          cases e : isF (keyE f) i with
          | false => rfl
          | true => rw [(mapR_new f e).1] at hold; cases hold
        obtain ⟨g1, g2, g3⟩ := mapR_old f hF
        rw [g2, g3]
        exact ⟨hks, by simp; omega, hlt, rfl, hmp⟩
  · rw [mapR_len, show i = N.length by omega]
    exact ⟨rfl, rfl⟩
/-- one step of the program is one step of the reference -/
theorem refined_is {N O : List (List Int)} {k : Nat} (hV : VM N O k) (i : Nat) :
    ((List.range N.length).map fun s => ((numF (keyE (rowS N O k (clsI N O k i))) s : Nat) : Int)) = clsI N O k (i + 1) ∧ cntF (keyE (rowS N O k (clsI N O k i))) N.length = cntI N O k (i + 1) := by
  have hE : ∀ s t, s < N.length → t < N.length → keyE (rowS N O k (clsI N O k i)) s t = keyE (kF N O k (clsI N O k i)) s t := fun s t hs ht => by
    rw [← kP_E hV i s t hs ht]
    simp only [keyE, decide_eq_decide]
    exact rowK_eq hV.v.k2
  refine ⟨?_, ?_⟩
  · show _ = nextC N O k (clsI N O k i)
    unfold nextC
    refine List.map_congr_left fun s hs => ?_
    rw [numF_congr hE (List.mem_range.1 hs)]
  · rw [cntI_succ, cntF_congr hE _ (Nat.le_refl _)]
/- mizmaze/mealy.ClassesOf -/
def c66 : VCfg := ⟨⟨[], [], [], [0, 1, 2, 3, 4, 5, 6, 7, 20]⟩, [], [], []⟩
set_option maxRecDepth 100000 in
theorem f66 (N O : List (List Int)) (z z' : Bool) (k : Nat) (hV : VM N O k) :
    ACall Try.prog 66 [.agg [.pay (.rows (N)) (z), .pay (.rows (O)) (z')]] (fun r objs => r = .tup [.pay (.ints .i64 (clsT N O k)) true, .int .i64 (cntT N O k)] ∧ objs = []) := by
  have hn := hV.v.n2
  have hn1 := hV.v.n1
  refine acall_intro (tyP_ok _) c66 2000 [.tmp 2, .tmp 3] Try.func66 rfl (by rfl) rfl (by kernel_rfl) ?_
  unfold Try.f66
  simp (config := {implicitDefEqProofs := false, maxSteps := 4000000}) (disch := omega) only [push_cast, c66, Nat.reduceAdd, Nat.reduceSub, Nat.reduceMul, Nat.reduceBEq, Int.reduceToNat, Int.reduceNeg, Int.reduceLE, Int.reduceLT, Int.reduceBEq, Int.reduceBNe, Int.reduceEq, Bool.not_true, Bool.not_false, eq_self, reduceCtorEq]
  refine ⟨by omega, ?_⟩
  refine awp_freeze [0] ?_
  refine awp_loop (tyP_ok _) c66 2000 [1, 2, 3, 4, 5] (fun n g st => ∃ (i : Nat) (nz : Bool), g = (false, 0) ∧ (∀ j, j < i → cntI N O k (j + 1) ≠ cntI N O k j) ∧ n = N.length - i ∧ st = ⟨25, [(1, .fref [.pay (.rows N) z, .pay (.rows O) z']), (2, .pay (.ints .i64 []) true), (3, .int .i64 0), (4, .pay (.ints .i64 (clsI N O k i)) nz), (5, .int .i64 (cntI N O k i))], []⟩) N.length (by kernel_rfl) ?_ ?_
  · refine ⟨0, false, rfl, fun j hj => by omega, rfl, ?_⟩
    rw [cntI_zero hn1]
    simp (config := {implicitDefEqProofs := false, maxSteps := 4000000}) (disch := omega) only [push_cast, c66, Nat.reduceAdd, Nat.reduceSub, Nat.reduceMul, Nat.reduceBEq, Int.reduceToNat, Int.reduceNeg, Int.reduceLE, Int.reduceLT, Int.reduceBEq, Int.reduceBNe, Int.reduceEq, Bool.not_true, Bool.not_false, eq_self, reduceCtorEq]
    rfl
  rintro n g st ⟨i, nz, rfl, hi, rfl, rfl⟩
  simp (config := {implicitDefEqProofs := false, maxSteps := 4000000}) (disch := omega) only [push_cast, c66, Nat.reduceAdd, Nat.reduceSub, Nat.reduceMul, Nat.reduceBEq, Int.reduceToNat, Int.reduceNeg, Int.reduceLE, Int.reduceLT, Int.reduceBEq, Int.reduceBNe, Int.reduceEq, Bool.not_true, Bool.not_false, eq_self, reduceCtorEq]
  have h1 := f86 N O z z' nz (clsI N O k i) k hV (clsI_len i)
  rw [(refined_is hV i).1, (refined_is hV i).2] at h1
  refine callW_eq _ _ h1 ?_
  simp (config := {implicitDefEqProofs := false, maxSteps := 4000000}) (disch := omega) only [push_cast, c66, Nat.reduceAdd, Nat.reduceSub, Nat.reduceMul, Nat.reduceBEq, Int.reduceToNat, Int.reduceNeg, Int.reduceLE, Int.reduceLT, Int.reduceBEq, Int.reduceBNe, Int.reduceEq, Bool.not_true, Bool.not_false, eq_self, reduceCtorEq]
  refine ⟨fun he => ?_, fun hne => ?_⟩
  · obtain ⟨g1, g2⟩ := clsI_done hV hi (by omega)
    exact ⟨g1, by rw [g2]; rfl⟩
  · have h2 : ∀ j, j < i + 1 → cntI N O k (j + 1) ≠ cntI N O k j := upto_succ hi (by omega)
    have h3 := cntI_grow hV (i + 1) h2
    have h4 := cntI_le (N := N) (O := O) (k := k) (i + 1)
    exact ⟨N.length - (i + 1), by omega, i + 1, true, h2, rfl, ⟨rfl, rfl⟩, rfl⟩
end Go.AM
end

/-! text Uk9 -/
section
namespace Go.AM
open Go Go.Proofs
/- mizmaze/mealy.Classes -/
/- slices.Index[[]int,int] -/
/- slices.Clone[[]int,int] -/
def c68 : VCfg := ⟨⟨[], [], [], [0, 2, 4]⟩, [], [], []⟩
theorem f68 (l : List Int) (z : Bool) (hl : l.length ≤ 140737488355) (h0 : l ≠ []) : ACall Try.prog 68 [.pay (.ints .i64 l) z] (fun r objs => r = .pay (.ints .i64 l) false ∧ objs = []) := by
  have hp : 0 < l.length := List.length_pos_iff.2 h0
  suffices h : ACall Try.prog 68 [.pay (.ints .i64 l) z] (fun r objs => r = .own 0 ∧ objs = [.arr (.ints .i64 l) ⟨3, false⟩]) by
    refine h.frz ?_
    rintro r objs ⟨rfl, rfl⟩
    exact ⟨[0], _, 1, rfl, rfl, rfl⟩
  cases z
  all_goals
    refine acall_intro (tyP_ok _) c68 2000 [.tmp 2] Try.func68 rfl (by rfl) rfl (by kernel_rfl) ?_
    unfold Try.f68
    simp (config := {implicitDefEqProofs := false, maxSteps := 4000000}) (disch := omega) only [push_cast, c68, Nat.reduceAdd, Nat.reduceSub, Nat.reduceMul, Nat.reduceBEq, Int.reduceToNat, Int.reduceNeg, Int.reduceLE, Int.reduceLT, Int.reduceBEq, Int.reduceBNe, Int.reduceEq, Bool.not_true, Bool.not_false, eq_self, reduceCtorEq]
  · exact ⟨by omega, by omega⟩
  · exact ⟨fun h => by have := of_decide_eq_true h; omega, fun _ => by omega⟩
/- mizmaze/mealy.Minimal -/
end Go.AM
end

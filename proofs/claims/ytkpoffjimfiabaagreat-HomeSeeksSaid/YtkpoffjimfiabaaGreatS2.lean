/-
  Contracts of the walk, Outs, Run, ClassesOf, Classes on both sides; conditions in each statement.
-/
import Derived.Test.YtkpoffjimfiabaaGreatS1
import Derived.Test.YtkpoffjimfiabaaGreatP2
import Derived.Test.YtkpoffjimfiabaaGreatF5
set_option linter.unusedVariables false
set_option linter.unusedSimpArgs false
set_option linter.unusedSectionVars false
set_option linter.unnecessarySimpa false

section
namespace Go.AM
open Go Go.Proofs
def xsO (N O : List (List Int)) (s : Int) (w : List Int) : List (List AV) := (outsG N O s w).map fun y => [.int .i64 y]
theorem xsO_len (N O : List (List Int)) (s : Int) (w : List Int) : (xsO N O s w).length = w.length := by simp [xsO, outsG_len]
theorem outsG_get {N O : List (List Int)} : ∀ {w : List Int} {s : Int} {i : Nat}, i < w.length → (outsG N O s w).getD i 0 = outG O (leadG N s (w.take i)) (w.getD i 0)
 | x :: w, s, 0, _ => by simp [outsG, leadG]
 | x :: w, s, i + 1, h => by
  have := outsG_get (N := N) (O := O) (w := w) (s := nxG N s x) (i := i) (by simpa using h)
  simp only [outsG, List.getD_cons_succ, this, List.take_succ_cons, leadG]
  rfl
def c72 : VCfg := ⟨⟨[], [], [], [0, 1, 2, 5, 6, 7, 8, 9, 10, 47]⟩, [(3, (.op 0 .loose (.op 1 .loose (.op 2 .loose (.op 3 .loose (.op 4 .loose (.op 5 .loose (.op 6 .loose (.op 7 .loose (.op 8 .loose (.op 9 .loose (.op 10 .loose (.op 11 .loose (.op 12 .loose (.op 13 .loose (.op 14 .loose .nil)))))))))))))))), (4, (.op 0 .loose (.op 1 .loose (.op 2 .loose (.op 3 .loose (.op 4 .loose (.op 5 .loose (.op 6 .loose (.op 7 .loose (.op 8 .loose (.op 9 .loose (.op 10 .loose (.op 11 .loose (.op 12 .loose (.op 13 .loose (.op 14 .loose (.op 15 .strict (.op 16 .loose (.op 17 .eff .nil)))))))))))))))))))], [], [46]⟩
def O72 (N O : List (List Int)) (z z' : Bool) (s : Int) : List AObj := [.box [.pay (.rows N) z, .pay (.rows O) z', .int .i64 s]]
set_option maxRecDepth 100000 in
theorem f72 (l : Nat) (N O : List (List Int)) (z z' y : Bool) (s : Int) (w : List Int) (k : Nat) (hV : VM N O k) (hs : 0 ≤ s ∧ s < N.length) (hw : ∀ x ∈ w, 0 ≤ x ∧ x < k) (hl : w.length ≤ 4611686018427387904) :
  GCall Tryz.prog ⟨l, xsO N O s w⟩ 72 (false, 0) [.lit (.func (.yield l) #[] #[]), .fref [.pay (.ints .i64 w) y], .hbox (.ref 0 0)] (O72 N O z z' s) (fun g' _ A O' => (g'.1 = false → g'.2 = w.length ∧ O' = O72 N O z z' (leadG N s w)) ∧ A.tail = [.fref [.pay (.ints .i64 w) y], .hbox (.ref 0 0)]) := by
 unfold O72
 refine gcall_intro (tyP_ok _) c72 2000 [] [0, 1, 2] Tryz.func72 rfl (by rfl) rfl (by rfl) (by kernel_rfl) (by kernel_rfl) ?_
 unfold Tryz.f72
 simp -implicitDefEqProofs (maxSteps := 4000000) (disch := omega) only [push_cast, c72, Nat.reduceAdd, Nat.reduceSub, Nat.reduceMul, Nat.reduceBEq, Int.reduceToNat, Int.reduceNeg, Int.reduceLE, Int.reduceLT, Int.reduceBEq, Int.reduceBNe, Int.reduceEq, eq_self, reduceCtorEq]
 refine awp_loop (tyP_ok _) c72 2000 [0, 1, 2, 7, 8, 9] (fun n g st => ∃ i : Nat, g = (false, i) ∧ i ≤ w.length ∧ n = w.length - i ∧ st = ⟨49, [(0, .lit (.func (.yield l) #[] #[])), (1, .fref [.pay (.ints .i64 w) y]), (2, .hbox (.ref 0 0)), (7, .pay (.ints .i64 w) y), (8, .int .i64 w.length), (9, .int .i64 i)], [.box [.pay (.rows N) z, .pay (.rows O) z', .int .i64 (leadG N s (w.take i))]]⟩) w.length (by kernel_rfl) ?_ ?_
 ·exact ⟨0, rfl, by omega, rfl, rfl⟩
 rintro n g st ⟨i, rfl, hi, rfl, rfl⟩
 simp -implicitDefEqProofs (maxSteps := 4000000) (disch := omega) only [push_cast, c72, Nat.reduceAdd, Nat.reduceSub, Nat.reduceMul, Nat.reduceBEq, Int.reduceToNat, Int.reduceNeg, Int.reduceLE, Int.reduceLT, Int.reduceBEq, Int.reduceBNe, Int.reduceEq, eq_self, reduceCtorEq]
 refine ⟨fun hlt => ?_, fun hge => ⟨by omega, by rw [List.take_of_length_le hge]⟩⟩
 have hlead := hV.v.lead (w.take i) hs.1 hs.2 fun x hx => hw x (List.mem_of_mem_take hx)
 have hx1 := hw _ (getD_mem hlt)
 have hat := hV.v.at hlead.1 hlead.2 hx1.1 hx1.2
 have hou := hV.out hlead.1 hlead.2 hx1.1 hx1.2
 have hol := hV.ol
 refine ⟨hlt, ⟨hlead.1, by omega⟩, ⟨hx1.1, by rw [hou.1]; exact hx1.2⟩, hlead, ⟨hx1.1, by rw [hat.1]; exact hx1.2⟩, ⟨by rw [xsO_len]; exact hlt, ?_⟩, w.length - (i + 1), by omega, i + 1, rfl, by omega, rfl, rfl, ?_⟩
 ·simp only [xsO, List.getElem_map]
  have h1 := outsG_get (N := N) (O := O) (s := s) hlt
  have h2 : i < (outsG N O s w).length := by rw [outsG_len]; exact hlt
  rw [show (outsG N O s w)[i] = (outsG N O s w).getD i 0 by simp [h2], h1]
  rfl
 ·exact (leadG_take N s w i hlt).symm
def c53 : VCfg := ⟨⟨[], [], [], [0, 1, 2, 3, 4]⟩, [], [], []⟩
theorem f53 (y0 : Yc) (g : Gh) (N O : List (List Int)) (z z' y : Bool) (s : Int) (w : List Int) :
  GCall Tryz.prog y0 53 g [.ref 0 0, .pay (.ints .i64 w) y] (O72 N O z z' s) (fun g' r A O' => g' = g ∧ r = .clo 72 [.fref [.pay (.ints .i64 w) y], .hbox (.ref 0 0)] ∧ A = [.ref 0 0, .pay (.ints .i64 w) y] ∧ O' = O72 N O z z' s) := by
 unfold O72
 refine gcall_intro (tyP_ok _) c53 2000 [.tmp 4] [0, 1] Tryz.func53 rfl (by rfl) rfl (by rfl) (by kernel_rfl) (by kernel_rfl) ?_
 unfold Tryz.f53
 simp -implicitDefEqProofs (maxSteps := 4000000) (disch := omega) only [push_cast, c53, Nat.reduceAdd, Nat.reduceSub, Nat.reduceMul, Nat.reduceBEq, Int.reduceToNat, Int.reduceNeg, Int.reduceLE, Int.reduceLT, Int.reduceBEq, Int.reduceBNe, Int.reduceEq, eq_self, reduceCtorEq]
def c71 : VCfg := ⟨⟨[2], [], [], [0, 1, 2, 4, 5, 6, 7]⟩, [], [], []⟩
set_option maxHeartbeats 4000000 in
set_option maxRecDepth 100000 in
theorem f71 (N O : List (List Int)) (z z' y : Bool) (s : Int) (w : List Int) (k : Nat) (hV : VM N O k) (hs : 0 ≤ s ∧ s < N.length) (hw : ∀ x ∈ w, 0 ≤ x ∧ x < k) (hl : w.length ≤ 140737488355) :
  GCall Tryz.prog noY 71 (false, 0) [.lit (.slice none 0 0), .clo 72 [.fref [.pay (.ints .i64 w) y], .hbox (.ref 0 0)]] (O72 N O z z' s)
   (fun g' r A O' => g' = (false, 0) ∧ r = .own 0 ∧ A = [.junk, .clo 72 [.fref [.pay (.ints .i64 w) y], .hbox (.ref 1 0)]] ∧ O' = .arr (.ints .i64 (outsG N O s w)) ⟨3, true⟩ :: O72 N O z z' (leadG N s w)) := by
 unfold O72
 refine gcall_intro (tyP_ok _) c71 2000 [.tmp 4] [0, 1] Tryz.func71 rfl (by rfl) rfl (by rfl) (by kernel_rfl) (by kernel_rfl) ?_
 unfold Tryz.f71
 simp -implicitDefEqProofs (maxSteps := 4000000) (disch := omega) only [push_cast, c71, Nat.reduceAdd, Nat.reduceSub, Nat.reduceMul, Nat.reduceBEq, Int.reduceToNat, Int.reduceNeg, Int.reduceLE, Int.reduceLT, Int.reduceBEq, Int.reduceBNe, Int.reduceEq, eq_self, reduceCtorEq]
 refine awp_virt (i := 1) (c := 0) (p := .ints .i64 []) 3 rfl rfl rfl ?_
 refine awp_range (tyP_ok _) c71 2000 (xsO N O s w) [1, 2, 4] (fun j st => j ≤ w.length ∧ st = ⟨13, [(1, .clo 72 [.fref [.pay (.ints .i64 w) y], .hbox .junk]), (2, .ref 0 0), (4, .pay (.ints .i64 []) true)], [.box [.own 1], .arr (.ints .i64 ((outsG N O s w).take j)) ⟨3, true⟩]⟩)
   (fun _ _ _ => False) (fun g' _ A O' => (g'.1 = false → g'.2 = w.length ∧ O' = O72 N O z z' (leadG N s w)) ∧ A.tail = [.fref [.pay (.ints .i64 w) y], .hbox (.ref 0 0)]) rfl (by rfl) ?_ (by kernel_rfl) (by kernel_rfl) (by kernel_rfl) (by kernel_rfl) ?_ ?_ ?_ ?_
 ·intro j hj
  simp [xsO]
 ·intro l
  simp -implicitDefEqProofs (maxSteps := 4000000) (disch := omega) only [push_cast, c71, Nat.reduceAdd, Nat.reduceSub, Nat.reduceMul, Nat.reduceBEq, Int.reduceToNat, Int.reduceNeg, Int.reduceLE, Int.reduceLT, Int.reduceBEq, Int.reduceBNe, Int.reduceEq, eq_self, reduceCtorEq]
  exact f72 l N O z z' y s w k hV hs hw (by omega)
 ·simp -implicitDefEqProofs (maxSteps := 4000000) (disch := omega) only [push_cast, c71, Nat.reduceAdd, Nat.reduceSub, Nat.reduceMul, Nat.reduceBEq, Int.reduceToNat, Int.reduceNeg, Int.reduceLE, Int.reduceLT, Int.reduceBEq, Int.reduceBNe, Int.reduceEq, eq_self, reduceCtorEq]
  exact Nat.zero_le _
 ·intro j hj st hI
  obtain ⟨hjl, rfl⟩ := hI
  have e : (xsO N O s w)[j] = [.int .i64 ((outsG N O s w).getD j 0)] := by
   have : j < (outsG N O s w).length := by simpa [xsO] using hj
   simp [xsO, List.getD, this]
  rw [e]
  have hj' : j < (outsG N O s w).length := by simpa [xsO] using hj
  have hwl : j < w.length := by rw [outsG_len] at hj'; exact hj'
  simp -implicitDefEqProofs (maxSteps := 4000000) (disch := omega) only [push_cast, c71, Nat.reduceAdd, Nat.reduceSub, Nat.reduceMul, Nat.reduceBEq, Int.reduceToNat, Int.reduceNeg, Int.reduceLE, Int.reduceLT, Int.reduceBEq, Int.reduceBNe, Int.reduceEq, eq_self, reduceCtorEq]
  refine ⟨by rw [List.length_take]; omega, by omega, ?_⟩
  rw [List.take_succ_eq_append_getElem hj']
  simp [hj']
 ·rintro g' r A O' ⟨hg, hA⟩
  refine ⟨fun h1 st ⟨hp, hst⟩ => ?_, fun _ _ _ h => h.elim⟩
  obtain ⟨h2, rfl⟩ := hg h1
  subst hst
  rw [h2, List.take_of_length_le (by rw [outsG_len]; omega)]
  simp -implicitDefEqProofs (maxSteps := 4000000) (disch := omega) only [push_cast, c71, hA, O72, Nat.reduceAdd, Nat.reduceSub, Nat.reduceMul, Nat.reduceBEq, Int.reduceToNat, Int.reduceNeg, Int.reduceLE, Int.reduceLT, Int.reduceBEq, Int.reduceBNe, Int.reduceEq, eq_self, reduceCtorEq]
def c52 : VCfg := ⟨⟨[], [], [], [0, 2]⟩, [], [71], [4]⟩
set_option maxRecDepth 100000 in
theorem f52 (N O : List (List Int)) (z z' y : Bool) (s : Int) (w : List Int) (k : Nat) (hV : VM N O k) (hs : 0 ≤ s ∧ s < N.length) (hw : ∀ x ∈ w, 0 ≤ x ∧ x < k) (hl : w.length ≤ 140737488355) :
  GCall Tryz.prog noY 52 (false, 0) [.clo 72 [.fref [.pay (.ints .i64 w) y], .hbox (.ref 0 0)]] (O72 N O z z' s)
   (fun g' r A O' => g' = (false, 0) ∧ r = .own 0 ∧ A = [.clo 72 [.fref [.pay (.ints .i64 w) y], .hbox (.ref 1 0)]] ∧ O' = .arr (.ints .i64 (outsG N O s w)) ⟨3, true⟩ :: O72 N O z z' (leadG N s w)) := by
 have h := f71 N O z z' y s w k hV hs hw hl
 unfold O72 at h ⊢
 refine gcall_intro (tyP_ok _) c52 2000 [.tmp 2] [0] Tryz.func52 rfl (by rfl) rfl (by rfl) (by kernel_rfl) (by kernel_rfl) ?_
 unfold Tryz.f52
 simp -implicitDefEqProofs (maxSteps := 4000000) (disch := omega) only [push_cast, c52, Nat.reduceAdd, Nat.reduceSub, Nat.reduceMul, Nat.reduceBEq, Int.reduceToNat, Int.reduceNeg, Int.reduceLE, Int.reduceLT, Int.reduceBEq, Int.reduceBNe, Int.reduceEq, eq_self, reduceCtorEq]
 refine lcallW_eq _ _ _ h ?_
 simp -implicitDefEqProofs (maxSteps := 4000000) (disch := omega) only [push_cast, c52, Nat.reduceAdd, Nat.reduceSub, Nat.reduceMul, Nat.reduceBEq, Int.reduceToNat, Int.reduceNeg, Int.reduceLE, Int.reduceLT, Int.reduceBEq, Int.reduceBNe, Int.reduceEq, eq_self, reduceCtorEq]
def c24 : VCfg := ⟨⟨[13], [], [], [0, 1, 2, 3, 6, 7, 8, 9]⟩, [(3, (.op 0 .loose (.op 1 .loose (.op 2 .loose (.op 3 .loose (.op 4 .loose (.op 5 .loose (.op 6 .loose .nil))))))))], [53, 52], [16, 17]⟩
set_option maxRecDepth 100000 in
theorem f24 (N O : List (List Int)) (z z' y : Bool) (s : Int) (w : List Int) (k : Nat) (hV : VM N O k) (hs : 0 ≤ s ∧ s < N.length) (hw : ∀ x ∈ w, 0 ≤ x ∧ x < k) (hl : w.length ≤ 140737488355) :
  ACall Tryz.prog 24 [.agg [.pay (.rows (N)) (z), .pay (.rows (O)) (z')], .int .i64 s, .pay (.ints .i64 w) y] (fun r objs => r = .tup [.pay (.ints .i64 (outsG N O s w)) true, .int .i64 (leadG N s w)] ∧ objs = []) := by
 suffices h : ACall Tryz.prog 24 [.agg [.pay (.rows (N)) (z), .pay (.rows (O)) (z')], .int .i64 s, .pay (.ints .i64 w) y] (fun r objs => r = .tup [.own 0, .int .i64 (leadG N s w)] ∧ objs = [.arr (.ints .i64 (outsG N O s w)) ⟨3, true⟩]) by
  refine h.frz ?_
  rintro r objs ⟨rfl, rfl⟩
  exact ⟨[0], _, 1, rfl, rfl, rfl⟩
 have h1 := f53 noY (false, 0) N O z z' y s w
 have h2 := f52 N O z z' y s w k hV hs hw hl
 unfold O72 at h1 h2
 refine acall_intro (tyP_ok _) c24 2000 [.tmp 6, .tmp 7] Tryz.func24 rfl (by rfl) rfl (by kernel_rfl) ?_
 unfold Tryz.f24
 simp -implicitDefEqProofs (maxSteps := 4000000) (disch := omega) only [push_cast, c24, Nat.reduceAdd, Nat.reduceSub, Nat.reduceMul, Nat.reduceBEq, Int.reduceToNat, Int.reduceNeg, Int.reduceLE, Int.reduceLT, Int.reduceBEq, Int.reduceBNe, Int.reduceEq, eq_self, reduceCtorEq]
 refine lcallW_eq _ _ _ h1 ?_
 simp -implicitDefEqProofs (maxSteps := 4000000) (disch := omega) only [push_cast, c24, Nat.reduceAdd, Nat.reduceSub, Nat.reduceMul, Nat.reduceBEq, Int.reduceToNat, Int.reduceNeg, Int.reduceLE, Int.reduceLT, Int.reduceBEq, Int.reduceBNe, Int.reduceEq, eq_self, reduceCtorEq]
 refine lcallW_eq _ _ _ h2 ?_
 simp -implicitDefEqProofs (maxSteps := 4000000) (disch := omega) only [push_cast, c24, Nat.reduceAdd, Nat.reduceSub, Nat.reduceMul, Nat.reduceBEq, Int.reduceToNat, Int.reduceNeg, Int.reduceLE, Int.reduceLT, Int.reduceBEq, Int.reduceBNe, Int.reduceEq, eq_self, reduceCtorEq]
end Go.AM
end

section
namespace Go.AM
open Go Go.Proofs
def RunMR (N O : List (List Int)) (s : Int) (w : List Int) (out : List Int) (t e : Int) : Prop :=
 (vmB N O = false ∧ e = 1 ∧ t = 0 ∧ out = []) ∨ (vmB N O = true ∧ ¬ ((0 ≤ s ∧ s < N.length) ∧ wordB (N.getD 0 []).length w = true) ∧ e = 2 ∧ t = 0 ∧ out = []) ∨
 (vmB N O = true ∧ ((0 ≤ s ∧ s < N.length) ∧ wordB (N.getD 0 []).length w = true) ∧ e = 0 ∧ t = leadG N s w ∧ out = outsG N O s w)
theorem RunMR.e0 {N O : List (List Int)} {s : Int} {w out : List Int} {t e : Int} (h : RunMR N O s w out t e) (he : e = 0) : vmB N O = true ∧ ((0 ≤ s ∧ s < N.length) ∧ wordB (N.getD 0 []).length w = true) ∧ t = leadG N s w ∧ out = outsG N O s w := by
 rcases h with ⟨_, h, _⟩ | ⟨_, _, h, _⟩ | ⟨h1, h2, _, h3, h4⟩
 ·omega
 ·omega
 ·exact ⟨h1, h2, h3, h4⟩
theorem RunMR.ok {N O : List (List Int)} {s : Int} {w out : List Int} {t e : Int} (h : RunMR N O s w out t e) (h1 : vmB N O = true) (h2 : (0 ≤ s ∧ s < N.length) ∧ wordB (N.getD 0 []).length w = true) : e = 0 ∧ t = leadG N s w ∧ out = outsG N O s w := by
 rcases h with ⟨h, _⟩ | ⟨_, h, _⟩ | ⟨_, _, h⟩
 ·rw [h1] at h; cases h
 ·exact absurd h2 h
 ·exact h
end Go.AM
end

section
namespace Go.AM
open Go Go.Proofs
def rowS (N O : List (List Int)) (k : Nat) (c : List Int) (s : Nat) : List Int := rowK N O c s k
def c68 : VCfg := ⟨⟨[], [9], [7], [0, 1, 2, 4, 5, 6, 7, 8, 9, 10, 11, 13, 17, 18, 19, 30, 31, 32, 33, 65]⟩, [(10, (.op 0 .loose (.op 1 .loose (.op 2 .loose (.op 3 .strict (.op 4 .strict (.op 5 .strict (.op 6 .loose (.op 7 .loose (.op 8 .loose (.op 9 .loose (.op 10 .strict (.op 11 .strict (.op 12 .strict (.op 13 .strict (.op 14 .strict (.op 15 .strict (.op 16 .strict (.op 17 .strict (.op 18 .loose (.op 19 .eff (.op 20 .loose (.op 21 .eff .nil)))))))))))))))))))))))], [], []⟩
def O68 (out : List Int) (m : List (List Int × Int)) : List AObj := [.mapI .arr m, .arr (.ints .i64 out) ⟨3, true⟩]
set_option maxHeartbeats 4000000 in
set_option maxRecDepth 100000 in
theorem f68 (N O : List (List Int)) (z z' y : Bool) (c : List Int) (k : Nat) (hV : VM N O k) (hc : c.length = N.length) :
  ACall Tryz.prog 68 [.agg [.pay (.rows (N)) (z), .pay (.rows (O)) (z')], .pay (.ints .i64 c) y] (fun r objs => r = .tup [.pay (.ints .i64 ((List.range N.length).map fun s => ((numF (keyE (rowS N O k c)) s : Nat) : Int))) true, .int .i64 (cntF (keyE (rowS N O k c)) N.length)] ∧ objs = []) := by
 suffices h : ACall Tryz.prog 68 [.agg [.pay (.rows (N)) (z), .pay (.rows (O)) (z')], .pay (.ints .i64 c) y] (fun r objs => r = .tup [.own 0, .int .i64 (cntF (keyE (rowS N O k c)) N.length)] ∧ objs = [.arr (.ints .i64 ((List.range N.length).map fun s => ((numF (keyE (rowS N O k c)) s : Nat) : Int))) ⟨3, true⟩]) by
  refine h.frz ?_
  rintro r objs ⟨rfl, rfl⟩
  exact ⟨[0], _, 1, rfl, rfl, rfl⟩
 have hn := hV.v.n2
 have hk2 := hV.v.k2
 have hol := hV.ol
 generalize hf : rowS N O k c = f
 have hfl : ∀ t, (f t).length = 13 := fun t => by rw [← hf]; exact rowA_len _ _ _ _
 refine acall_intro (tyP_ok _) c68 2000 [.tmp 4, .tmp 5] Tryz.func68 rfl (by rfl) rfl (by kernel_rfl) ?_
 unfold Tryz.f68
 simp -implicitDefEqProofs (maxSteps := 4000000) (disch := omega) only [push_cast, c68, Nat.reduceAdd, Nat.reduceSub, Nat.reduceMul, Nat.reduceBEq, Int.reduceToNat, Int.reduceNeg, Int.reduceLE, Int.reduceLT, Int.reduceBEq, Int.reduceBNe, Int.reduceEq, eq_self, reduceCtorEq]
 refine awp_upto (tyP_ok _) c68 2000 [1, 2, 4, 5, 6, 7, 17, 18] (N.length) (fun _ => True) (fun i => ⟨80, [(1, .pay (.ints .i64 c) y), (2, .fref [.pay (.rows N) z, .pay (.rows O) z']), (4, .pay (.ints .i64 []) true), (5, .int .i64 0), (6, .mapr 0), (7, .own 1), (17, .int .i64 N.length), (18, .int .i64 i)], O68 ((List.range i).map fun s => ((numF (keyE f) s : Nat) : Int)) (mapR f i)⟩) (by kernel_rfl) ?_ ?_ ?_
 ·simp -implicitDefEqProofs (maxSteps := 4000000) (disch := omega) only [push_cast, c68, O68, Nat.reduceAdd, Nat.reduceSub, Nat.reduceMul, Nat.reduceBEq, Int.reduceToNat, Int.reduceNeg, Int.reduceLE, Int.reduceLT, Int.reduceBEq, Int.reduceBNe, Int.reduceEq, eq_self, reduceCtorEq]
  exact ⟨rfl, rfl⟩
 ·trivial
 intro i hi _
 simp -implicitDefEqProofs (maxSteps := 4000000) (disch := omega) only [push_cast, c68, O68, Nat.reduceAdd, Nat.reduceSub, Nat.reduceMul, Nat.reduceBEq, Int.reduceToNat, Int.reduceNeg, Int.reduceLE, Int.reduceLT, Int.reduceBEq, Int.reduceBNe, Int.reduceEq, eq_self, reduceCtorEq]
 refine ⟨fun hlt => ?_, fun hge => ?_⟩
 ·have hn1 : (N.getD i []).length = k := (hV.v.row _ (getD_mem' hlt)).1
  have ho1 : (O.getD i []).length = k := (hV.orow _ (getD_mem' (by omega))).1
  have hrow := hV.v.row _ (getD_mem' hlt)
  rw [hn1]
  refine ⟨by omega, hlt, ?_⟩
  refine awp_upto (tyP_ok _) c68 2000 [1, 2, 4, 5, 6, 7, 8, 9, 17, 18, 30, 31, 32] (k) (fun _ => True) (fun x => ⟨80, [(1, .pay (.ints .i64 c) y), (2, .fref [.pay (.rows N) z, .pay (.rows O) z']), (4, .pay (.ints .i64 []) true), (5, .int .i64 0), (6, .mapr 0), (7, .own 1), (8, .int .i64 i), (9, .ref 2 0), (17, .int .i64 N.length), (18, .int .i64 i), (30, .pay (.ints .i64 (N.getD i [])) false), (31, .int .i64 k), (32, .int .i64 x)], O68 ((List.range i).map fun s => ((numF (keyE f) s : Nat) : Int)) (mapR f i) ++ [.arr (.ints .i64 (rowK N O c i x)) ⟨127, false⟩]⟩) (by kernel_rfl) ?_ ?_ ?_
  ·simp -implicitDefEqProofs (maxSteps := 4000000) (disch := omega) only [push_cast, c68, O68, Nat.reduceAdd, Nat.reduceSub, Nat.reduceMul, Nat.reduceBEq, Int.reduceToNat, Int.reduceNeg, Int.reduceLE, Int.reduceLT, Int.reduceBEq, Int.reduceBNe, Int.reduceEq, eq_self, reduceCtorEq]
   rfl
  ·trivial
  intro x hx _
  have hrl : (rowK N O c i x).length = 13 := rowA_len _ _ _ _
  simp -implicitDefEqProofs (maxSteps := 4000000) (disch := omega) only [push_cast, c68, O68, hrl, Nat.reduceAdd, Nat.reduceSub, Nat.reduceMul, Nat.reduceBEq, Int.reduceToNat, Int.reduceNeg, Int.reduceLE, Int.reduceLT, Int.reduceBEq, Int.reduceBNe, Int.reduceEq, eq_self, reduceCtorEq]
  refine ⟨fun hxk => ?_, fun hxk => ?_⟩
  ·have hx1 := hrow.2 _ (getD_mem (show x < (N.getD i []).length by omega))
   have e1 : (1 + 2 * (x : Int)).toNat = 1 + 2 * x := by omega
   have e2 : (2 + 2 * (x : Int)).toNat = 2 + 2 * x := by omega
   rw [e1, e2, List.length_set, hrl]
   refine ⟨by omega, ⟨hx1.1, by omega⟩, by omega, by omega, ⟨⟨by omega, by omega⟩, by omega⟩, ⟨⟨by omega, by omega⟩, by omega⟩, hxk, ?_⟩
   simp [rowK, rowA, nxG, outG]
  ·have hxe : x = k := by omega
   subst hxe
   have hfi : rowK N O c i x = f i := by rw [← hf]; rfl
   have hks := mapR_keys f hfl i
   have hks1 := mapR_keys f hfl (i + 1)
   have hmp : (List.range i).map (fun s => ((numF (keyE f) s : Nat) : Int)) ++ [((numF (keyE f) i : Nat) : Int)] = (List.range (i + 1)).map (fun s => ((numF (keyE f) s : Nat) : Int)) := by simp [List.range_succ]
   rw [hfi]
   refine ⟨hks, fun hnew => ?_, fun hold => ?_⟩
   ·have hF : isF (keyE f) i = true := by
     cases e : isF (keyE f) i with
     | true => rfl
     | false => rw [(mapR_old f e).1] at hnew; cases hnew
    obtain ⟨g1, g2, g3⟩ := mapR_new f hF
    rw [g2, g3]
    exact ⟨hks, hks1, by simp; omega, hlt, rfl, hmp⟩
   ·have hF : isF (keyE f) i = false := by
     cases e : isF (keyE f) i with
     | false => rfl
     | true => rw [(mapR_new f e).1] at hold; cases hold
    obtain ⟨g1, g2, g3⟩ := mapR_old f hF
    rw [g2, g3]
    exact ⟨hks, by simp; omega, hlt, rfl, hmp⟩
 ·rw [mapR_len, show i = N.length by omega]
  exact ⟨rfl, rfl⟩
theorem refined_is {N O : List (List Int)} {k : Nat} (hV : VM N O k) (i : Nat) :
  ((List.range N.length).map fun s => ((numF (keyE (rowS N O k (clsI N O k i))) s : Nat) : Int)) = clsI N O k (i + 1) ∧ cntF (keyE (rowS N O k (clsI N O k i))) N.length = cntI N O k (i + 1) := by
 have hE : ∀ s t, s < N.length → t < N.length → keyE (rowS N O k (clsI N O k i)) s t = keyE (kF N O k (clsI N O k i)) s t := fun s t hs ht => by
  rw [← kP_E hV i s t hs ht]
  simp only [keyE, decide_eq_decide]
  exact rowK_eq hV.v.k2
 refine ⟨?_, ?_⟩
 ·show _ = nextC N O k (clsI N O k i)
  unfold nextC
  refine List.map_congr_left fun s hs => ?_
  rw [numF_congr hE (List.mem_range.1 hs)]
 ·rw [cntI_succ, cntF_congr hE _ (Nat.le_refl _)]
def c46 : VCfg := ⟨⟨[], [], [], [0, 1, 2, 3, 4, 5, 6, 7, 20]⟩, [], [], []⟩
set_option maxRecDepth 100000 in
theorem f46 (N O : List (List Int)) (z z' : Bool) (k : Nat) (hV : VM N O k) :
  ACall Tryz.prog 46 [.agg [.pay (.rows (N)) (z), .pay (.rows (O)) (z')]] (fun r objs => r = .tup [.pay (.ints .i64 (clsT N O k)) true, .int .i64 (cntT N O k)] ∧ objs = []) := by
 have hn := hV.v.n2
 have hn1 := hV.v.n1
 refine acall_intro (tyP_ok _) c46 2000 [.tmp 2, .tmp 3] Tryz.func46 rfl (by rfl) rfl (by kernel_rfl) ?_
 unfold Tryz.f46
 simp -implicitDefEqProofs (maxSteps := 4000000) (disch := omega) only [push_cast, c46, Nat.reduceAdd, Nat.reduceSub, Nat.reduceMul, Nat.reduceBEq, Int.reduceToNat, Int.reduceNeg, Int.reduceLE, Int.reduceLT, Int.reduceBEq, Int.reduceBNe, Int.reduceEq, eq_self, reduceCtorEq]
 refine ⟨by omega, ?_⟩
 refine awp_freeze [0] ?_
 refine awp_loop (tyP_ok _) c46 2000 [1, 2, 3, 4, 5] (fun n g st => ∃ (i : Nat) (nz : Bool), g = (false, 0) ∧ (∀ j, j < i → cntI N O k (j + 1) ≠ cntI N O k j) ∧ n = N.length - i ∧ st = ⟨25, [(1, .fref [.pay (.rows N) z, .pay (.rows O) z']), (2, .pay (.ints .i64 []) true), (3, .int .i64 0), (4, .pay (.ints .i64 (clsI N O k i)) nz), (5, .int .i64 (cntI N O k i))], []⟩) N.length (by kernel_rfl) ?_ ?_
 ·refine ⟨0, false, rfl, fun j hj => by omega, rfl, ?_⟩
  rw [cntI_zero hn1]
  simp -implicitDefEqProofs (maxSteps := 4000000) (disch := omega) only [push_cast, c46, Nat.reduceAdd, Nat.reduceSub, Nat.reduceMul, Nat.reduceBEq, Int.reduceToNat, Int.reduceNeg, Int.reduceLE, Int.reduceLT, Int.reduceBEq, Int.reduceBNe, Int.reduceEq, eq_self, reduceCtorEq]
  rfl
 rintro n g st ⟨i, nz, rfl, hi, rfl, rfl⟩
 simp -implicitDefEqProofs (maxSteps := 4000000) (disch := omega) only [push_cast, c46, Nat.reduceAdd, Nat.reduceSub, Nat.reduceMul, Nat.reduceBEq, Int.reduceToNat, Int.reduceNeg, Int.reduceLE, Int.reduceLT, Int.reduceBEq, Int.reduceBNe, Int.reduceEq, eq_self, reduceCtorEq]
 have h1 := f68 N O z z' nz (clsI N O k i) k hV (clsI_len i)
 rw [(refined_is hV i).1, (refined_is hV i).2] at h1
 refine callW_eq _ _ h1 ?_
 simp -implicitDefEqProofs (maxSteps := 4000000) (disch := omega) only [push_cast, c46, Nat.reduceAdd, Nat.reduceSub, Nat.reduceMul, Nat.reduceBEq, Int.reduceToNat, Int.reduceNeg, Int.reduceLE, Int.reduceLT, Int.reduceBEq, Int.reduceBNe, Int.reduceEq, eq_self, reduceCtorEq]
 refine ⟨fun he => ?_, fun hne => ?_⟩
 ·obtain ⟨g1, g2⟩ := clsI_done hV hi (by omega)
  exact ⟨g1, by rw [g2]; rfl⟩
 ·have h2 : ∀ j, j < i + 1 → cntI N O k (j + 1) ≠ cntI N O k j := upto_succ hi (by omega)
  have h3 := cntI_grow hV (i + 1) h2
  have h4 := cntI_le (N := N) (O := O) (k := k) (i + 1)
  exact ⟨N.length - (i + 1), by omega, i + 1, true, h2, rfl, ⟨rfl, rfl⟩, rfl⟩
end Go.AM
end

section
namespace Go.AM
open Go Go.Proofs
def ClassR (N O : List (List Int)) (c : List Int) (e : Int) : Prop := (vmB N O = false ∧ e = 1 ∧ c = []) ∨ (vmB N O = true ∧ e = 0 ∧ c = clsT N O (N.getD 0 []).length)
def c93 : VCfg := ⟨⟨[], [], [], [0, 1, 4, 5, 7, 8, 9, 16]⟩, [], [], []⟩
theorem f93 (l : List Int) (z : Bool) (x : Int) (hl : l.length ≤ 4611686018427387904) (i0 : Nat) (h0 : i0 < l.length) (h1 : l.getD i0 0 = x) (h2 : ∀ t, t < i0 → l.getD t 0 ≠ x) : ACall Tryz.prog 93 [.pay (.ints .i64 l) z, .int .i64 x] (fun r objs => r = .int .i64 i0 ∧ objs = []) := by
 refine acall_intro (tyP_ok _) c93 2000 [.tmp 4] Tryz.func93 rfl (by rfl) rfl (by kernel_rfl) ?_
 unfold Tryz.f93
 simp -implicitDefEqProofs (maxSteps := 4000000) (disch := omega) only [push_cast, c93, Nat.reduceAdd, Nat.reduceSub, Nat.reduceMul, Nat.reduceBEq, Int.reduceToNat, Int.reduceNeg, Int.reduceLE, Int.reduceLT, Int.reduceBEq, Int.reduceBNe, Int.reduceEq, eq_self, reduceCtorEq]
 refine awp_upto (tyP_ok _) c93 2000 [0, 1, 4, 7, 8] (l.length) (fun i => i ≤ i0) (fun i => ⟨19, [(0, .pay (.ints .i64 l) z), (1, .int .i64 x), (4, .int .i64 0), (7, .int .i64 l.length), (8, .int .i64 i)], []⟩) (by kernel_rfl) ?_ ?_ ?_
 ·simp -implicitDefEqProofs (maxSteps := 4000000) (disch := omega) only [push_cast, c93, Nat.reduceAdd, Nat.reduceSub, Nat.reduceMul, Nat.reduceBEq, Int.reduceToNat, Int.reduceNeg, Int.reduceLE, Int.reduceLT, Int.reduceBEq, Int.reduceBNe, Int.reduceEq, eq_self, reduceCtorEq]
 ·exact Nat.zero_le _
 intro i hi hr
 simp -implicitDefEqProofs (maxSteps := 4000000) (disch := omega) only [push_cast, c93, Nat.reduceAdd, Nat.reduceSub, Nat.reduceMul, Nat.reduceBEq, Int.reduceToNat, Int.reduceNeg, Int.reduceLE, Int.reduceLT, Int.reduceBEq, Int.reduceBNe, Int.reduceEq, eq_self, reduceCtorEq]
 refine ⟨fun hlt => ⟨hlt, fun he => ?_, fun hne => ?_⟩, fun hge => ?_⟩
 ·rcases Nat.lt_or_eq_of_le hr with h | h
  ·exact absurd he.symm (h2 i h)
  ·rw [h]
 ·refine ⟨hlt, ?_⟩
  rcases Nat.lt_or_eq_of_le hr with h | h
  ·exact h
  ·subst h; exact absurd h1.symm hne
 ·omega
end Go.AM
end

section
namespace Go.AM
open Go Go.Proofs
def outL (E : Nat → Nat → Bool) (n s : Nat) (v : Int) : List Int := (List.range n).map fun t => if t < s then ((numF E t : Nat) : Int) else if t = s then v else 0
theorem outL_len (E : Nat → Nat → Bool) (n s : Nat) (v : Int) : (outL E n s v).length = n := by simp [outL]
theorem outL_lt {E : Nat → Nat → Bool} {n s t : Nat} {v : Int} (h : t < s) (hn : t < n) : (outL E n s v).getD t 0 = ((numF E t : Nat) : Int) := by simp [outL, List.getD, hn, h]
theorem outL_at {E : Nat → Nat → Bool} {n s : Nat} {v : Int} (hn : s < n) : (outL E n s v).getD s 0 = v := by simp [outL, List.getD, hn]
theorem outL_set {E : Nat → Nat → Bool} {n s : Nat} {v u : Int} : (outL E n s v).set s u = outL E n s u := by
 refine List.ext_getElem (by simp [outL]) fun i h1 h2 => ?_
 simp only [List.getElem_set, outL, List.getElem_map, List.getElem_range]
 by_cases e : s = i
 ·subst e; simp
 ·rw [if_neg e]
  by_cases e2 : i < s
  ·simp [e2]
  ·simp [e2, show ¬ i = s from fun h => e h.symm]
theorem outL_next {E : Nat → Nat → Bool} {n s : Nat} : outL E n s ((numF E s : Nat) : Int) = outL E n (s + 1) 0 := by
 refine List.ext_getElem (by simp [outL]) fun i h1 h2 => ?_
 simp only [outL, List.getElem_map, List.getElem_range]
 by_cases e : i < s
 ·rw [if_pos e, if_pos (by omega)]
 ·rw [if_neg e]
  by_cases e2 : i = s
  ·subst e2; rw [if_pos rfl, if_pos (by omega)]
  ·rw [if_neg e2, if_neg (by omega)]; split <;> rfl
theorem outL_zero (E : Nat → Nat → Bool) (n : Nat) : List.replicate n 0 = outL E n 0 0 := by
 refine List.ext_getElem (by simp [outL]) fun i h1 h2 => by simp [outL]
theorem outL_all {N O : List (List Int)} {k : Nat} {c : List Int} : outL (keyE (kF N O k c)) N.length N.length 0 = nextC N O k c := by
 refine List.ext_getElem (by simp [outL, nextC]) fun i h1 h2 => ?_
 have : i < N.length := by simpa [outL] using h1
 simp [outL, nextC, this]
def alk (N O : List (List Int)) (c : List Int) (s t x : Nat) : Bool := (List.range x).all fun y => decide (outG O s y = outG O t y ∧ c.getD (nxG N s y).toNat 0 = c.getD (nxG N t y).toNat 0)
theorem alk_succ {N O : List (List Int)} {c : List Int} {s t x : Nat} : alk N O c s t (x + 1) = (alk N O c s t x && decide (outG O s x = outG O t x ∧ c.getD (nxG N s x).toNat 0 = c.getD (nxG N t x).toNat 0)) := by
 simp [alk, List.range_succ]
theorem alk_key {N O : List (List Int)} {c : List Int} {s t k : Nat} : alk N O c s t k = keyE (kF N O k c) s t := by
 rw [Bool.eq_iff_iff]
 simp only [alk, List.all_eq_true, List.mem_range, decide_eq_true_eq, keyE, kF_eq]
def curV (E : Nat → Nat → Bool) (s t : Nat) : Int := if fstF E s < t then ((numF E s : Nat) : Int) else ((cntF E s : Nat) : Int)
def c56 : VCfg := ⟨⟨[], [], [], [0, 1, 2, 4, 5, 6, 7, 8, 9, 10, 17, 34, 44, 92, 105]⟩, [(14, (.op 0 .loose (.op 1 .loose (.op 2 .loose (.op 3 .loose (.op 4 .loose (.op 5 .loose (.op 6 .loose (.op 7 .loose (.op 8 .loose (.op 9 .loose (.op 10 .loose (.op 11 .loose (.op 12 .loose (.op 13 .loose (.op 14 .loose (.op 15 .loose (.op 16 .loose (.op 17 .loose (.op 18 .loose (.op 19 .loose (.op 20 .loose (.op 21 .loose (.op 22 .loose (.op 23 .loose (.op 24 .loose (.op 25 .loose (.op 26 .loose (.op 27 .loose (.op 28 .loose (.op 29 .loose (.op 30 .loose (.op 31 .loose (.op 32 .loose (.op 33 .loose (.op 34 .loose (.op 35 .loose (.op 36 .loose (.op 37 .loose (.op 38 .loose (.op 39 .loose (.op 40 .loose (.op 41 .loose (.op 42 .loose (.op 43 .loose (.op 44 .loose (.op 45 .loose .nil)))))))))))))))))))))))))))))))))))))))))))))))], [], []⟩
set_option maxHeartbeats 4000000 in
set_option maxRecDepth 100000 in
theorem f56 (N O : List (List Int)) (z z' y : Bool) (c : List Int) (k : Nat) (hV : VM N O k) (hc : c.length = N.length) :
  ACall Tryz.prog 56 [.agg [.pay (.rows (N)) (z), .pay (.rows (O)) (z')], .pay (.ints .i64 c) y] (fun r objs => r = .pay (.ints .i64 (nextC N O k c)) false ∧ objs = []) := by
 suffices h : ACall Tryz.prog 56 [.agg [.pay (.rows (N)) (z), .pay (.rows (O)) (z')], .pay (.ints .i64 c) y] (fun r objs => r = .own 0 ∧ objs = [.arr (.ints .i64 (nextC N O k c)) ⟨3, false⟩]) by
  refine h.frz ?_
  rintro r objs ⟨rfl, rfl⟩
  exact ⟨[0], _, 1, rfl, rfl, rfl⟩
 have hn := hV.v.n2
 have hk2 := hV.v.k2
 have hol := hV.ol
 have hall := outL_all (N := N) (O := O) (k := k) (c := c)
 generalize hE : keyE (kF N O k c) = E at hall
 refine acall_intro (tyP_ok _) c56 2000 [.tmp 4] Tryz.func56 rfl (by rfl) rfl (by kernel_rfl) ?_
 unfold Tryz.f56
 simp -implicitDefEqProofs (maxSteps := 4000000) (disch := omega) only [push_cast, c56, Nat.reduceAdd, Nat.reduceSub, Nat.reduceMul, Nat.reduceBEq, Int.reduceToNat, Int.reduceNeg, Int.reduceLE, Int.reduceLT, Int.reduceBEq, Int.reduceBNe, Int.reduceEq, eq_self, reduceCtorEq]
 refine ⟨by omega, ?_⟩
 refine awp_upto (tyP_ok _) c56 2000 [1, 2, 4, 5, 6, 7] (N.length) (fun _ => True) (fun s => ⟨109, [(1, .pay (.ints .i64 c) y), (2, .fref [.pay (.rows N) z, .pay (.rows O) z']), (4, .pay (.ints .i64 []) true), (5, .own 0), (6, .int .i64 (cntF E s)), (7, .int .i64 s)], [.arr (.ints .i64 (outL E N.length s 0)) ⟨3, false⟩]⟩) (by kernel_rfl) ?_ ?_ ?_
 ·rw [hc, outL_zero E]; simp -implicitDefEqProofs (maxSteps := 4000000) (disch := omega) only [push_cast, c56, Nat.reduceAdd, Nat.reduceSub, Nat.reduceMul, Nat.reduceBEq, Int.reduceToNat, Int.reduceNeg, Int.reduceLE, Int.reduceLT, Int.reduceBEq, Int.reduceBNe, Int.reduceEq, eq_self, reduceCtorEq]
  rfl
 ·trivial
 intro s hs _
 have hcE := cntF_le E s
 simp -implicitDefEqProofs (maxSteps := 4000000) (disch := omega) only [push_cast, c56, outL_len, Nat.reduceAdd, Nat.reduceSub, Nat.reduceMul, Nat.reduceBEq, Int.reduceToNat, Int.reduceNeg, Int.reduceLE, Int.reduceLT, Int.reduceBEq, Int.reduceBNe, Int.reduceEq, eq_self, reduceCtorEq]
 refine ⟨fun hlt => ?_, fun hge => ?_⟩
 ·have hlt2 : s < N.length := by omega
  have hrow := hV.v.row _ (getD_mem' hlt2)
  have hro : (O.getD s []).length = k := (hV.orow _ (getD_mem' (show s < O.length by omega))).1
  rw [outL_set]
  refine ⟨hlt2, ?_⟩
  have hf1 := fstF_le E s
  have hfi : isF E (fstF E s) = true := by rw [← hE]; exact fstF_isF s
  have hcur0 : ((cntF E s : Nat) : Int) = curV E s 0 := by unfold curV; rw [if_neg (by omega)]
  have hnum : fstF E s < s → ((numF E s : Nat) : Int) < ((cntF E s : Nat) : Int) := fun h => by
   have : numF E s < cntF E s := cntF_lt h hfi
   omega
  rw [hcur0]
  refine awp_upto (tyP_ok _) c56 2000 [1, 2, 4, 5, 6, 7, 8] (s) (fun t => t ≤ fstF E s + 1) (fun t => ⟨109, [(1, .pay (.ints .i64 c) y), (2, .fref [.pay (.rows N) z, .pay (.rows O) z']), (4, .pay (.ints .i64 []) true), (5, .own 0), (6, .int .i64 (cntF E s)), (7, .int .i64 s), (8, .int .i64 t)], [.arr (.ints .i64 (outL E N.length s (curV E s t))) ⟨3, false⟩]⟩) (by kernel_rfl) ?_ ?_ ?_
  ·rw [← hcur0]; simp -implicitDefEqProofs (maxSteps := 4000000) (disch := omega) only [push_cast, c56, Nat.reduceAdd, Nat.reduceSub, Nat.reduceMul, Nat.reduceBEq, Int.reduceToNat, Int.reduceNeg, Int.reduceLE, Int.reduceLT, Int.reduceBEq, Int.reduceBNe, Int.reduceEq, eq_self, reduceCtorEq]
  ·exact Nat.zero_le _
  intro t ht htf
  have hat := outL_at (E := E) (v := curV E s t) hlt2
  simp -implicitDefEqProofs (maxSteps := 4000000) (disch := omega) only [push_cast, c56, outL_len, hat, Nat.reduceAdd, Nat.reduceSub, Nat.reduceMul, Nat.reduceBEq, Int.reduceToNat, Int.reduceNeg, Int.reduceLE, Int.reduceLT, Int.reduceBEq, Int.reduceBNe, Int.reduceEq, eq_self, reduceCtorEq]
  have hexit : (s ≤ t ∨ ¬ curV E s t = ((cntF E s : Nat) : Int)) → curV E s t = ((numF E s : Nat) : Int) := fun h => by
   by_cases e : fstF E s < t
   ·unfold curV; rw [if_pos e]
   ·rcases h with h | h
    ·have : fstF E s = s := by omega
     unfold curV numF; rw [if_neg e, this]
    ·exact absurd (by unfold curV; rw [if_neg e]) h
  have hout : ∀ v : Int, v = ((numF E s : Nat) : Int) → (v = ((cntF E s : Nat) : Int) ↔ isF E s = true) := fun v hv => by
   constructor
   ·intro h
    rcases Nat.lt_or_eq_of_le hf1 with h1 | h1
    ·have := hnum h1; omega
    ·rw [← h1]; exact hfi
   ·intro h
    rw [hv, Int.natCast_inj, ← hE]
    rw [← hE] at h
    exact numF_isF h
  refine ⟨fun hts => ⟨hlt2, fun hcv => ?_, fun hcv => ?_⟩, fun hts => ?_⟩
  ·have hft : t ≤ fstF E s := by
    rcases Nat.lt_or_ge (fstF E s) t with h | h
    ·have h1 : curV E s t = ((numF E s : Nat) : Int) := by unfold curV; rw [if_pos h]
     have := hnum (by omega)
     omega
    ·exact h
   have hrt := hV.v.row _ (getD_mem' (show t < N.length by omega))
   have hrot : (O.getD t []).length = k := (hV.orow _ (getD_mem' (show t < O.length by omega))).1
   refine awp_upto (tyP_ok _) c56 2000 [1, 2, 4, 5, 6, 7, 8, 9, 10] (k) (fun _ => True) (fun x => ⟨109, [(1, .pay (.ints .i64 c) y), (2, .fref [.pay (.rows N) z, .pay (.rows O) z']), (4, .pay (.ints .i64 []) true), (5, .own 0), (6, .int .i64 (cntF E s)), (7, .int .i64 s), (8, .int .i64 t), (9, .bool (alk N O c s t x)), (10, .int .i64 x)], [.arr (.ints .i64 (outL E N.length s (curV E s t))) ⟨3, false⟩]⟩) (by kernel_rfl) ?_ ?_ ?_
   ·simp -implicitDefEqProofs (maxSteps := 4000000) (disch := omega) only [push_cast, c56, Nat.reduceAdd, Nat.reduceSub, Nat.reduceMul, Nat.reduceBEq, Int.reduceToNat, Int.reduceNeg, Int.reduceLE, Int.reduceLT, Int.reduceBEq, Int.reduceBNe, Int.reduceEq, eq_self, reduceCtorEq]
    rfl
   ·trivial
   intro x hx _
   have hsu := alk_succ (N := N) (O := O) (c := c) (s := s) (t := t) (x := x)
   simp -implicitDefEqProofs (maxSteps := 4000000) (disch := omega) only [push_cast, c56, outL_len, Nat.reduceAdd, Nat.reduceSub, Nat.reduceMul, Nat.reduceBEq, Int.reduceToNat, Int.reduceNeg, Int.reduceLE, Int.reduceLT, Int.reduceBEq, Int.reduceBNe, Int.reduceEq, eq_self, reduceCtorEq]
   have e1 : ∀ u : Nat, outG O u x = (O.getD u []).getD x 0 := fun u => by simp [outG]
   have e2 : ∀ u : Nat, nxG N u x = (N.getD u []).getD x 0 := fun u => by simp [nxG]
   rw [e1, e1, e2, e2] at hsu
   refine ⟨hlt2, fun hxk => ?_, fun hxk => ?_⟩
   ·have hx1 := hrow.2 _ (getD_mem hxk)
    have hx2 := hrt.2 _ (getD_mem (show x < (N.getD t []).length by omega))
    refine ⟨fun ha => ⟨by omega, by omega, by omega, by omega, fun he => ⟨hlt2, hxk, ⟨hx1.1, by omega⟩, by omega, by omega, ⟨hx2.1, by omega⟩, by omega, ?_⟩, fun hne => ⟨by omega, ?_⟩⟩, fun ha => ⟨by omega, ?_⟩⟩
    ·rw [hsu, ha, Bool.true_and, Bool.eq_iff_iff, beq_iff_eq, decide_eq_true_eq]
     exact ⟨fun h => ⟨he, h⟩, fun h => h.2⟩
    ·rw [hsu, decide_eq_false (fun h => hne h.1), Bool.and_false]
    ·rw [hsu, ha]; rfl
   ·have hxk2 : x = k := by omega
    subst hxk2
    have hEst : alk N O c s t x = E s t := by rw [← hE]; exact alk_key
    have hE2 : ∀ u v, E u v = true ↔ kF N O x c u = kF N O x c v := fun u v => by rw [← hE]; simp [keyE]
    have hfk : kF N O x c (fstF E s) = kF N O x c s := by rw [← hE]; exact fstF_key s
    have hff : ∀ u, u < fstF E s → kF N O x c s ≠ kF N O x c u := fun u hu => by rw [← hE] at hu; exact fstF_first hu
    rw [hEst]
    refine ⟨fun ha => ?_, fun ha => ?_⟩
    ·have hk1 := (hE2 s t).1 ha
     have hft2 : fstF E s = t := by
      rcases Nat.lt_or_eq_of_le hft with h | h
      ·exact absurd hk1 (hff t h)
      ·exact h.symm
     have hnt : numF E t = numF E s := by
      rw [← hE]; exact numF_eq.2 hk1.symm
     refine ⟨by omega, hlt2, hts, by omega, ?_⟩
     rw [outL_set, outL_lt hts (by omega), hnt]
     unfold curV
     rw [if_pos (by omega)]
    ·have hft2 : fstF E s ≠ t := fun h => by
      have : E s t = true := (hE2 s t).2 (by rw [← h]; exact hfk.symm)
      rw [this] at ha; cases ha
     refine ⟨hts, by omega, ?_⟩
     unfold curV
     rw [if_neg (by omega), if_neg (by omega)]
  ·have hv := hexit (.inr hcv)
   have ho := hout _ hv
   rw [hv]
   refine ⟨hlt2, fun h => ⟨hlt2, ?_, outL_next⟩, fun h => ⟨hlt2, ?_, outL_next⟩⟩
   ·rw [cntF, if_pos (ho.1 (by omega))]; omega
   ·rw [cntF, if_neg (fun h2 => h (by rw [← hv]; exact ho.2 h2))]; rfl
  ·have hv := hexit (.inl hts)
   have ho := hout _ hv
   rw [hv] at ho ⊢
   refine ⟨hlt2, fun h => ⟨hlt2, ?_, outL_next⟩, fun h => ⟨hlt2, ?_, outL_next⟩⟩
   ·rw [cntF, if_pos (ho.1 h)]; omega
   ·rw [cntF, if_neg (fun h2 => h (ho.2 h2))]; rfl
 ·rw [show s = N.length by omega, hall]
def c30 : VCfg := ⟨⟨[], [], [], [0, 1, 2, 3, 4, 13]⟩, [], [], []⟩
theorem f30 (N O : List (List Int)) (z z' : Bool) (k : Nat) (hV : VM N O k) : ACall Tryz.prog 30 [.agg [.pay (.rows (N)) (z), .pay (.rows (O)) (z')]] (fun r objs => r = .pay (.ints .i64 (clsT N O k)) false ∧ objs = []) := by
 have hn := hV.v.n2
 refine acall_intro (tyP_ok _) c30 2000 [.tmp 2] Tryz.func30 rfl (by rfl) rfl (by kernel_rfl) ?_
 unfold Tryz.f30
 simp -implicitDefEqProofs (maxSteps := 4000000) (disch := omega) only [push_cast, c30, Nat.reduceAdd, Nat.reduceSub, Nat.reduceMul, Nat.reduceBEq, Int.reduceToNat, Int.reduceNeg, Int.reduceLE, Int.reduceLT, Int.reduceBEq, Int.reduceBNe, Int.reduceEq, eq_self, reduceCtorEq]
 refine ⟨by omega, ?_⟩
 refine awp_freeze [0] ?_
 refine awp_upto (tyP_ok _) c30 2000 [1, 2, 3, 4] (N.length) (fun _ => True) (fun i => ⟨20, [(1, .fref [.pay (.rows N) z, .pay (.rows O) z']), (2, .pay (.ints .i64 []) true), (3, .pay (.ints .i64 (clsI N O k i)) false), (4, .int .i64 i)], []⟩) (by kernel_rfl) ?_ ?_ ?_
 ·simp -implicitDefEqProofs (maxSteps := 4000000) (disch := omega) only [push_cast, c30, Nat.reduceAdd, Nat.reduceSub, Nat.reduceMul, Nat.reduceBEq, Int.reduceToNat, Int.reduceNeg, Int.reduceLE, Int.reduceLT, Int.reduceBEq, Int.reduceBNe, Int.reduceEq, eq_self, reduceCtorEq]
  rfl
 ·trivial
 intro i hi _
 simp -implicitDefEqProofs (maxSteps := 4000000) (disch := omega) only [push_cast, c30, Nat.reduceAdd, Nat.reduceSub, Nat.reduceMul, Nat.reduceBEq, Int.reduceToNat, Int.reduceNeg, Int.reduceLE, Int.reduceLT, Int.reduceBEq, Int.reduceBNe, Int.reduceEq, eq_self, reduceCtorEq]
 refine ⟨fun hlt => ?_, fun hge => by rw [show i = N.length by omega]; rfl⟩
 refine callW_eq _ _ (f56 N O z z' false _ k hV (clsI_len i)) ?_
 simp -implicitDefEqProofs (maxSteps := 4000000) (disch := omega) only [push_cast, c30, Nat.reduceAdd, Nat.reduceSub, Nat.reduceMul, Nat.reduceBEq, Int.reduceToNat, Int.reduceNeg, Int.reduceLE, Int.reduceLT, Int.reduceBEq, Int.reduceBNe, Int.reduceEq, eq_self, reduceCtorEq]
 exact ⟨hlt, rfl⟩
def c29 : VCfg := ⟨⟨[], [], [], [0, 2, 3, 4, 8]⟩, [], [], []⟩
set_option maxRecDepth 100000 in
theorem f29 (l : List Int) (z : Bool) (m : Nat) (hl : l.length ≤ 4611686018427387904) (hm : m ≤ 4611686018427387904) (h1 : ∀ i, i < l.length → 0 ≤ l.getD i 0 ∧ l.getD i 0 < m) (h2 : 0 < m → ∃ i, i < l.length ∧ l.getD i 0 = m - 1) : ACall Tryz.prog 29 [.pay (.ints .i64 l) z] (fun r objs => r = .int .i64 m ∧ objs = []) := by
 refine acall_intro (tyP_ok _) c29 2000 [.tmp 2] Tryz.func29 rfl (by rfl) rfl (by kernel_rfl) ?_
 unfold Tryz.f29
 simp -implicitDefEqProofs (maxSteps := 4000000) (disch := omega) only [push_cast, c29, Nat.reduceAdd, Nat.reduceSub, Nat.reduceMul, Nat.reduceBEq, Int.reduceToNat, Int.reduceNeg, Int.reduceLE, Int.reduceLT, Int.reduceBEq, Int.reduceBNe, Int.reduceEq, eq_self, reduceCtorEq]
 refine awp_loop (tyP_ok _) c29 2000 [0, 2, 3, 4] (fun n g st => ∃ (i : Nat) (v : Int), g = (false, 0) ∧ i ≤ l.length ∧ 0 ≤ v ∧ v ≤ m ∧ (∀ j, j < i → l.getD j 0 < v) ∧ n = l.length - i ∧ st = ⟨19, [(0, .pay (.ints .i64 l) z), (2, .int .i64 0), (3, .int .i64 v), (4, .int .i64 i)], []⟩) l.length (by kernel_rfl) ?_ ?_
 ·exact ⟨0, 0, rfl, Nat.zero_le _, by omega, by omega, fun j hj => by omega, rfl, rfl⟩
 rintro n g st ⟨i, v, rfl, hi, h0, hv, hlt, rfl, rfl⟩
 simp -implicitDefEqProofs (maxSteps := 4000000) (disch := omega) only [push_cast, c29, Nat.reduceAdd, Nat.reduceSub, Nat.reduceMul, Nat.reduceBEq, Int.reduceToNat, Int.reduceNeg, Int.reduceLE, Int.reduceLT, Int.reduceBEq, Int.reduceBNe, Int.reduceEq, eq_self, reduceCtorEq]
 refine ⟨fun hil => ⟨hil, ?_⟩, fun hge => ?_⟩
 ·have := h1 i hil
  rw [wrap_in (by omega)]
  refine ⟨l.length - (i + 1), by omega, i + 1, max v (l.getD i 0 + 1), by omega, by omega, by omega, fun j hj => ?_, rfl, rfl, by omega⟩
  rcases Nat.lt_succ_iff_lt_or_eq.1 hj with hj | rfl
  ·have := hlt j hj; omega
  ·omega
 ·by_cases hm0 : m = 0
  ·omega
  ·obtain ⟨j, h3, h4⟩ := h2 (by omega)
   have := hlt j (by omega)
   omega
end Go.AM
end

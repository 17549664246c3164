/-
  Contracts of sorting words; conditions in each statement.
-/
import Derived.Test.YtkpoffjimfiabaaGreatS2
import Derived.Test.YtkpoffjimfiabaaGreatP2
import Derived.Test.YtkpoffjimfiabaaGreatF5
import Derived.Test.YtkpoffjimfiabaaGreatSh
import Derived.Test.YtkpoffjimfiabaaGreatP3
import Derived.Test.YtkpoffjimfiabaaGreatF6
import Derived.Shelf.SlSortCmp.NoneTotal
set_option linter.unusedVariables false
set_option linter.unusedSimpArgs false
set_option linter.unusedSectionVars false
set_option linter.unnecessarySimpa false

section
namespace Go.AM
open Go Go.Proofs
theorem f26 (y : Yc) (g : Gh) (l : List Int) (ai : AI) (hl : l.length < 4611686018427387904) : GCall Tryz.prog y 26 g [.own 0] [.arr (.ints .i64 l) ai] (fun g' r A O => g' = g ∧ r = .tup [] ∧ A = [.own 0] ∧ O = [.arr (.ints .i64 (sortL l)) ai]) := by
 refine gcall_inPlace Tryz.func26 rfl rfl (sortL_len l) (fun _ a cap w => Tryz.slices_Sort_int_none a cap w) (fun w b cap hH hb hc => (Tryz.slices_Sort_int b 0 cap l w hH hb hl).mono ?_)
 rintro e w' ⟨rfl, n, os, rfl⟩
 exact ⟨rfl, n, os, rfl⟩
theorem l93 (y : Yc) (g : Gh) (l : List Int) (ai : AI) (x : Int) (hl : l.length ≤ 4611686018427387904) :
  GCall Tryz.prog y 93 g [.own 0, .int .i64 x] [.arr (.ints .i64 l) ai] (fun g' r A O => g' = g ∧ (∃ n : Int, (0 ≤ n ↔ x ∈ l) ∧ r = .int .i64 n) ∧ A = [.own 0, .int .i64 x] ∧ O = [.arr (.ints .i64 l) ai]) := by
 refine gcall_intro (tyP_ok _) c93 2000 [.tmp 4] [0, 1] Tryz.func93 rfl (by rfl) rfl (by rfl) (by kernel_rfl) (by kernel_rfl) ?_
 unfold Tryz.f93
 simp -implicitDefEqProofs (maxSteps := 4000000) (disch := omega) only [push_cast, c93, Nat.reduceAdd, Nat.reduceSub, Nat.reduceMul, Nat.reduceBEq, Int.reduceToNat, Int.reduceNeg, Int.reduceLE, Int.reduceLT, Int.reduceBEq, Int.reduceBNe, Int.reduceEq, eq_self, reduceCtorEq]
 refine awp_upto (tyP_ok _) c93 2000 [0, 1, 4, 7, 8] (l.length) (fun i => ∀ j, j < i → l.getD j 0 ≠ x) (fun i => ⟨19, [(0, .own 0), (1, .int .i64 x), (4, .int .i64 0), (7, .int .i64 l.length), (8, .int .i64 i)], [.arr (.ints .i64 l) ai]⟩) (by kernel_rfl) ?_ ?_ ?_
 ·simp -implicitDefEqProofs (maxSteps := 4000000) (disch := omega) only [push_cast, c93, Nat.reduceAdd, Nat.reduceSub, Nat.reduceMul, Nat.reduceBEq, Int.reduceToNat, Int.reduceNeg, Int.reduceLE, Int.reduceLT, Int.reduceBEq, Int.reduceBNe, Int.reduceEq, eq_self, reduceCtorEq]
 ·exact fun j hj => by omega
 intro i hi hr
 simp -implicitDefEqProofs (maxSteps := 4000000) (disch := omega) only [push_cast, c93, Nat.reduceAdd, Nat.reduceSub, Nat.reduceMul, Nat.reduceBEq, Int.reduceToNat, Int.reduceNeg, Int.reduceLE, Int.reduceLT, Int.reduceBEq, Int.reduceBNe, Int.reduceEq, eq_self, reduceCtorEq]
 refine ⟨fun hlt => ⟨hlt, fun he => ⟨_, ⟨fun _ => by rw [he]; exact getD_mem hlt, fun _ => by omega⟩, rfl⟩, fun hne => ⟨hlt, upto_succ hr fun h => hne h.symm⟩⟩, fun hge => ⟨_, ⟨fun h => by omega, fun h => ?_⟩, rfl⟩⟩
 obtain ⟨j, hj, rfl⟩ := List.getElem_of_mem h
 exact absurd (by simp [List.getD, hj]) (hr j (by omega))
def c85 : VCfg := ⟨⟨[], [], [], [0, 1, 4]⟩, [], [93], [7]⟩
theorem f85 (y : Yc) (g : Gh) (l : List Int) (ai : AI) (x : Int) (hl : l.length ≤ 4611686018427387904) :
  GCall Tryz.prog y 85 g [.own 0, .int .i64 x] [.arr (.ints .i64 l) ai] (fun g' r A O => g' = g ∧ r = .bool (decide (x ∈ l)) ∧ A = [.own 0, .int .i64 x] ∧ O = [.arr (.ints .i64 l) ai]) := by
 refine gcall_intro (tyP_ok _) c85 2000 [.tmp 4] [0, 1] Tryz.func85 rfl (by rfl) rfl (by rfl) (by kernel_rfl) (by kernel_rfl) ?_
 unfold Tryz.f85
 simp -implicitDefEqProofs (maxSteps := 4000000) (disch := omega) only [push_cast, c85, Nat.reduceAdd, Nat.reduceSub, Nat.reduceMul, Nat.reduceBEq, Int.reduceToNat, Int.reduceNeg, Int.reduceLE, Int.reduceLT, Int.reduceBEq, Int.reduceBNe, Int.reduceEq, eq_self, reduceCtorEq]
 refine lcallW_rel (l93 _ _ _ _ _ hl) ?_
 rintro g' R A O ⟨rfl, ⟨n, hn, rfl⟩, rfl, rfl⟩
 simp -implicitDefEqProofs (maxSteps := 4000000) (disch := omega) only [push_cast, c85, Nat.reduceAdd, Nat.reduceSub, Nat.reduceMul, Nat.reduceBEq, Int.reduceToNat, Int.reduceNeg, Int.reduceLE, Int.reduceLT, Int.reduceBEq, Int.reduceBNe, Int.reduceEq, eq_self, reduceCtorEq]
 exact decide_eq_decide.2 hn
def ReachR (N O : List (List Int)) (s : Int) (l : List Int) (e : Int) : Prop :=
 (vmB N O = false ∧ e = 1 ∧ l = []) ∨ (vmB N O = true ∧ ¬ (0 ≤ s ∧ s < N.length) ∧ e = 2 ∧ l = []) ∨ (vmB N O = true ∧ (0 ≤ s ∧ s < N.length) ∧ e = 0 ∧ l = reachL N (N.getD 0 []).length s)
theorem take_snoc {w : List Int} {i : Nat} (h : i < w.length) : w.take (i + 1) = w.take i ++ [w.getD i 0] := by
 rw [List.take_succ_eq_append_getElem h]
 simp [List.getD, h]
theorem mem_at {l : List (List Int)} {x : List Int} (h : x ∈ l) : ∃ p, p < l.length ∧ l.getD p [] = x := by
 obtain ⟨p, hp, rfl⟩ := List.getElem_of_mem h
 exact ⟨p, hp, by simp [List.getD, hp]⟩
def c33 : VCfg := ⟨⟨[], [], [8], [0, 1, 2, 3, 6, 7, 8, 9, 13]⟩, [(5, (.op 0 .loose (.op 1 .strict (.op 2 .strict (.op 3 .strict (.op 4 .strict (.op 5 .strict (.op 6 .strict (.op 7 .strict (.op 8 .strict (.op 9 .strict (.op 10 .strict (.op 11 .strict (.op 12 .eff (.op 13 .eff (.op 14 .loose .nil)))))))))))))))), (6, (.op 0 .loose (.op 1 .loose (.op 2 .loose (.op 3 .loose (.op 4 .loose (.op 5 .loose (.op 6 .loose (.op 7 .loose (.op 8 .loose (.op 9 .loose (.op 10 .loose (.op 11 .loose .nil)))))))))))))], [], []⟩
set_option maxRecDepth 100000 in
theorem f33 (N O : List (List Int)) (z z' u : Bool) (s : Int) (w : List Int) (k : Nat) (hV : VM N O k) (hs : 0 ≤ s ∧ s < N.length) (hw : ∀ x ∈ w, 0 ≤ x ∧ x < k) (hl : w.length ≤ 1000000) :
  ACall Tryz.prog 33 [.agg [.pay (.rows (N)) (z), .pay (.rows (O)) (z')], .int .i64 s, .pay (.ints .i64 w) u] (fun r objs => ∃ nz, r = .tup [.pay (.ints .i64 (outsG N O s w)) nz, .int .i64 (leadG N s w)] ∧ objs = []) := by
 suffices h : ACall Tryz.prog 33 [.agg [.pay (.rows (N)) (z), .pay (.rows (O)) (z')], .int .i64 s, .pay (.ints .i64 w) u] (fun r objs => r = .tup [.own 0, .int .i64 (leadG N s w)] ∧ objs = [.arr (.ints .i64 (outsG N O s w)) ⟨3, true⟩]) by
  refine h.frz ?_
  rintro r objs ⟨rfl, rfl⟩
  exact ⟨[0], _, 1, rfl, _, rfl, rfl⟩
 refine acall_intro (tyP_ok _) c33 2000 [.tmp 6, .tmp 7] Tryz.func33 rfl (by rfl) rfl (by kernel_rfl) ?_
 unfold Tryz.f33
 simp -implicitDefEqProofs (maxSteps := 4000000) (disch := omega) only [push_cast, c33, Nat.reduceAdd, Nat.reduceSub, Nat.reduceMul, Nat.reduceBEq, Int.reduceToNat, Int.reduceNeg, Int.reduceLE, Int.reduceLT, Int.reduceBEq, Int.reduceBNe, Int.reduceEq, eq_self, reduceCtorEq]
 refine awp_upd (tyP_ok _) c33 2000 [1, 2, 3, 6, 7, 8, 9] (w.length) (fun _ => True) (fun i => [(1, .int .i64 (leadG N s (w.take i))), (9, .int .i64 i)]) (fun i => [(0, .arr (.ints .i64 (outsG N O s (w.take i))) ⟨3, true⟩)]) (by kernel_rfl) (by rw [List.take_zero]; rfl) ?_ ?_
 ·trivial
 intro i hi _
 simp -implicitDefEqProofs (maxSteps := 4000000) (disch := omega) only [push_cast, c33, Nat.reduceAdd, Nat.reduceSub, Nat.reduceMul, Nat.reduceBEq, Int.reduceToNat, Int.reduceNeg, Int.reduceLE, Int.reduceLT, Int.reduceBEq, Int.reduceBNe, Int.reduceEq, eq_self, reduceCtorEq]
 refine ⟨fun hlt => ?_, fun hge => ⟨by rw [List.take_of_length_le hge], by rw [List.take_of_length_le hge]⟩⟩
 have h1 := hV.v.lead (w.take i) hs.1 hs.2 fun c hc => hw c (List.mem_of_mem_take hc)
 have h2 := hw _ (getD_mem hlt)
 have h3 := (hV.v.row _ (getD_mem' (show (leadG N s (w.take i)).toNat < N.length by omega))).1
 have hol := hV.ol
 have h4 := (hV.orow _ (getD_mem' (show (leadG N s (w.take i)).toNat < O.length by omega))).1
 have h5 := outsG_len N O (w.take i) s
 rw [List.length_take] at h5
 refine ⟨⟨h1.1, by omega⟩, hlt, ⟨h2.1, by omega⟩, by omega, h1, hlt, ⟨h2.1, by omega⟩, hlt, ?_, (outsG_take N O s w i hlt).symm⟩
 rw [take_snoc hlt, leadG_snoc]
end Go.AM
end

section
namespace Go.AM
open Go Go.Proofs
def c70 : VCfg := ⟨⟨[], [], [], [0, 2]⟩, [], [], []⟩
theorem f70 (n : Int) : ACall Tryz.prog 70 [.int .i64 n] (fun r objs => r = .bool false ∧ objs = []) := by
 refine acall_intro (tyP_ok _) c70 2000 [.tmp 2] Tryz.func70 rfl (by rfl) rfl (by kernel_rfl) ?_
 unfold Tryz.f70
 simp -implicitDefEqProofs (maxSteps := 4000000) (disch := omega) only [push_cast, c70, Nat.reduceAdd, Nat.reduceSub, Nat.reduceMul, Nat.reduceBEq, Int.reduceToNat, Int.reduceNeg, Int.reduceLE, Int.reduceLT, Int.reduceBEq, Int.reduceBNe, Int.reduceEq, eq_self, reduceCtorEq]
def c50 : VCfg := ⟨⟨[], [], [], [0, 1, 4, 5, 6, 11, 12, 13, 16, 19]⟩, [], [], []⟩
theorem f50 (n m : Int) : ACall Tryz.prog 50 [.int .i64 n, .int .i64 m] (fun r objs => r = .int .i64 (if n < m then -1 else if n = m then 0 else 1) ∧ objs = []) := by
 refine acall_intro (tyP_ok _) c50 2000 [.tmp 4] Tryz.func50 rfl (by rfl) rfl (by kernel_rfl) ?_
 unfold Tryz.f50
 simp -implicitDefEqProofs (maxSteps := 4000000) (disch := omega) only [push_cast, c50, Nat.reduceAdd, Nat.reduceSub, Nat.reduceMul, Nat.reduceBEq, Int.reduceToNat, Int.reduceNeg, Int.reduceLE, Int.reduceLT, Int.reduceBEq, Int.reduceBNe, Int.reduceEq, eq_self, reduceCtorEq]
 refine callW_eq _ _ (f70 n) ?_
 simp -implicitDefEqProofs (maxSteps := 4000000) (disch := omega) only [push_cast, c50, Nat.reduceAdd, Nat.reduceSub, Nat.reduceMul, Nat.reduceBEq, Int.reduceToNat, Int.reduceNeg, Int.reduceLE, Int.reduceLT, Int.reduceBEq, Int.reduceBNe, Int.reduceEq, eq_self, reduceCtorEq]
 refine callW_eq _ _ (f70 m) ?_
 simp -implicitDefEqProofs (maxSteps := 4000000) (disch := omega) only [push_cast, c50, Nat.reduceAdd, Nat.reduceSub, Nat.reduceMul, Nat.reduceBEq, Int.reduceToNat, Int.reduceNeg, Int.reduceLE, Int.reduceLT, Int.reduceBEq, Int.reduceBNe, Int.reduceEq, eq_self, reduceCtorEq]
 refine ⟨fun h => ?_, fun h => ⟨fun h2 => ?_, fun h2 => ?_⟩⟩
 ·simp [h]
 ·simp [show ¬ n < m by omega, show ¬ n = m by omega]
 ·simp [show n = m by omega]
def c51 : VCfg := ⟨⟨[], [], [], [0, 1, 4, 5, 6, 7, 8, 9, 10, 11, 12, 19, 28, 35]⟩, [], [], []⟩
set_option maxHeartbeats 1000000 in
theorem f51 (x y : List Int) (z z' : Bool) (hx : x.length ≤ 4611686018427387904) : ACall Tryz.prog 51 [.pay (.ints .i64 x) z, .pay (.ints .i64 y) z'] (fun r objs => r = .int .i64 (cmpL x y) ∧ objs = []) := by
 refine acall_intro (tyP_ok _) c51 2000 [.tmp 4] Tryz.func51 rfl (by rfl) rfl (by kernel_rfl) ?_
 unfold Tryz.f51
 simp -implicitDefEqProofs (maxSteps := 4000000) (disch := omega) only [push_cast, c51, Nat.reduceAdd, Nat.reduceSub, Nat.reduceMul, Nat.reduceBEq, Int.reduceToNat, Int.reduceNeg, Int.reduceLE, Int.reduceLT, Int.reduceBEq, Int.reduceBNe, Int.reduceEq, eq_self, reduceCtorEq]
 refine awp_upto (tyP_ok _) c51 2000 [0, 1, 4, 9, 10, 11] (x.length) (fun i => i ≤ y.length ∧ ∀ j, j < i → x.getD j 0 = y.getD j 0) (fun i => ⟨36, [(0, .pay (.ints .i64 x) z), (1, .pay (.ints .i64 y) z'), (4, .int .i64 0), (9, .pay (.ints .i64 x) z), (10, .int .i64 x.length), (11, .int .i64 i)], []⟩) (by kernel_rfl) ?_ ?_ ?_
 ·simp -implicitDefEqProofs (maxSteps := 4000000) (disch := omega) only [push_cast, c51, Nat.reduceAdd, Nat.reduceSub, Nat.reduceMul, Nat.reduceBEq, Int.reduceToNat, Int.reduceNeg, Int.reduceLE, Int.reduceLT, Int.reduceBEq, Int.reduceBNe, Int.reduceEq, eq_self, reduceCtorEq]
 ·exact ⟨Nat.zero_le _, fun j hj => by omega⟩
 rintro i hi ⟨hy, hp⟩
 simp -implicitDefEqProofs (maxSteps := 4000000) (disch := omega) only [push_cast, c51, Nat.reduceAdd, Nat.reduceSub, Nat.reduceMul, Nat.reduceBEq, Int.reduceToNat, Int.reduceNeg, Int.reduceLE, Int.reduceLT, Int.reduceBEq, Int.reduceBNe, Int.reduceEq, eq_self, reduceCtorEq]
 refine ⟨fun hlt => ⟨hlt, fun hge => ?_, fun hly => ?_⟩, fun hge => ⟨fun hl => ?_, fun hl => ?_⟩⟩
 ·rw [cmpL_end hp (by omega) (by omega) (.inr (by omega))]
  simp [show ¬ x.length < y.length by omega, show ¬ x.length = y.length by omega]
 ·refine ⟨by omega, ?_⟩
  refine callW_eq _ _ (f50 _ _) ?_
  simp -implicitDefEqProofs (maxSteps := 4000000) (disch := omega) only [push_cast, c51, Nat.reduceAdd, Nat.reduceSub, Nat.reduceMul, Nat.reduceBEq, Int.reduceToNat, Int.reduceNeg, Int.reduceLE, Int.reduceLT, Int.reduceBEq, Int.reduceBNe, Int.reduceEq, eq_self, reduceCtorEq]
  refine ⟨fun hne => ?_, fun he => ?_⟩
  ·by_cases h0 : x.getD i 0 = y.getD i 0
   ·rw [h0] at hne; simp at hne
   ·rw [cmpL_eq hp (by omega) (by omega) h0, if_neg h0]
  ·refine ⟨hlt, ⟨by omega, upto_succ hp ?_⟩⟩
   by_cases h0 : x.getD i 0 = y.getD i 0
   ·exact h0
   ·exfalso; revert he; split <;> simp [h0]
 ·rw [cmpL_end hp (by omega) (by omega) (.inl (by omega))]
  simp [show x.length < y.length by omega]
 ·rw [cmpL_end hp (by omega) (by omega) (.inl (by omega))]
  simp [show ¬ x.length < y.length by omega, show x.length = y.length by omega]
def c25 : VCfg := ⟨⟨[], [], [], [0, 1, 4, 5, 10, 12, 13, 14, 24]⟩, [(6, (.op 0 .loose (.op 1 .loose (.op 2 .loose (.op 3 .loose (.op 4 .loose (.op 5 .loose (.op 6 .loose (.op 7 .loose (.op 8 .loose .nil))))))))))], [], []⟩
theorem f25 (x y : List Int) (z z' : Bool) (hx : x.length ≤ 4611686018427387904) : ACall Tryz.prog 25 [.pay (.ints .i64 x) z, .pay (.ints .i64 y) z'] (fun r objs => r = .bool (decide (x = y)) ∧ objs = []) := by
 refine acall_intro (tyP_ok _) c25 2000 [.tmp 4] Tryz.func25 rfl (by rfl) rfl (by kernel_rfl) ?_
 unfold Tryz.f25
 simp -implicitDefEqProofs (maxSteps := 4000000) (disch := omega) only [push_cast, c25, Nat.reduceAdd, Nat.reduceSub, Nat.reduceMul, Nat.reduceBEq, Int.reduceToNat, Int.reduceNeg, Int.reduceLE, Int.reduceLT, Int.reduceBEq, Int.reduceBNe, Int.reduceEq, eq_self, reduceCtorEq]
 refine ⟨fun hne => ?_, fun heq => ?_⟩
 ·have : x ≠ y := fun e => by subst e; simp at hne
  simp [this]
 refine awp_upto (tyP_ok _) c25 2000 [0, 1, 4, 12, 13] (x.length) (fun i => ∀ j, j < i → x.getD j 0 = y.getD j 0) (fun i => ⟨26, [(0, .pay (.ints .i64 x) z), (1, .pay (.ints .i64 y) z'), (4, .bool false), (12, .int .i64 x.length), (13, .int .i64 i)], []⟩) (by kernel_rfl) ?_ ?_ ?_
 ·simp -implicitDefEqProofs (maxSteps := 4000000) (disch := omega) only [push_cast, c25, Nat.reduceAdd, Nat.reduceSub, Nat.reduceMul, Nat.reduceBEq, Int.reduceToNat, Int.reduceNeg, Int.reduceLE, Int.reduceLT, Int.reduceBEq, Int.reduceBNe, Int.reduceEq, eq_self, reduceCtorEq]
 ·exact fun j hj => by omega
 intro i hi hp
 simp -implicitDefEqProofs (maxSteps := 4000000) (disch := omega) only [push_cast, c25, Nat.reduceAdd, Nat.reduceSub, Nat.reduceMul, Nat.reduceBEq, Int.reduceToNat, Int.reduceNeg, Int.reduceLE, Int.reduceLT, Int.reduceBEq, Int.reduceBNe, Int.reduceEq, eq_self, reduceCtorEq]
 refine ⟨fun hlt => ⟨hlt, by omega, fun hne => ?_, fun he => ⟨hlt, upto_succ hp he⟩⟩, fun hge => ?_⟩
 ·have : x ≠ y := fun e => hne (by rw [e])
  simp [this]
 ·have : x = y := ints_eq' heq fun j hj => hp j (by omega)
  simp [this]
end Go.AM
end

section
namespace Go.AM
open Go Go.Proofs Go.Sort
theorem f60 (y : Yc) (g : Gh) (L : List (List Int)) (ai : AI) (hl : L.length ≤ 1099511627776) (hB : ∀ r ∈ L, r.length ≤ 4611686018427387904) :
  GCall Tryz.prog y 60 g [.own 0, .clo 51 []] [.arr (.rows L) ai] (fun g' r A O => g' = g ∧ r = .tup [] ∧ A = [.own 0, .junk] ∧ ∃ L', L'.length = L.length ∧ (L'.Perm L ∧ SR L') ∧ O = [.arr (.rows L') ai]) := by
 have hE : Enters Tryz.prog 51 := enters_of Tryz.func51 rfl rfl
 refine gcall_rowsInPlace (B := 4611686018427387904) (Good := fun L' => L'.Perm L ∧ SR L') Tryz.func60 rfl rfl hB (fun e => by rw [e]; exact ⟨.nil, .nil⟩) (fun e a cap w => ?_) (fun w S b cap d hS hb hH hs hr hbl hcap => ?_)
 ·exact AnyF.slices_SortFunc_none (P := Tryz.prog) (ρ := Tryz.laysSlF6_f60_ren) { Tryz.laysSlF6_f60 with } a cap _ w
 ·have h := Tryz.slices_SortFunc (vlV : RowVal w S 4611686018427387904 → Value) vlV_one (fun x y => cmpL (rdV x) (rdV y)) cmpL_SWO 51 #[] b 0 cap d w hE (cmpLays_of (fun x y hx _ => f51 x y false false hx) hS hb) hH hbl (by omega)
  rw [hs] at h
  refine h.mono ?_
  rintro e w' ⟨rfl, d', n, os, hp, hsd, rfl⟩
  have hd' : d'.size = L.length := hp.1.trans hs
  refine ⟨rfl, d', n, os, hd', rfl, ?_, sorted_map (by rw [hd']; exact hsd)⟩
  have e1 : d.toList.map rdV = L := by
   refine List.ext_getElem (by simp [hs]) fun i h1 h2 => ?_
   have h3 : i < d.size := by simpa using h1
   have := hr i (by omega)
   rw [getElem!_pos d i h3] at this
   simpa [List.getD, h2] using this
  have h2 := hp.2.2
  rw [show d'.extract 0 L.length = d' by rw [← hd']; simp, show d.extract 0 L.length = d by rw [← hs]; simp] at h2
  rw [← e1]
  exact h2.map rdV
end Go.AM
end

section
namespace Go.AM
open Go Go.Proofs Go.Sort
theorem cpR_all {L : List (List Int)} {m : Nat} (hm : m ≤ L.length) (h : ∀ j, j < m → keptR L j = true) : (kpR L m).length = m ∧ cpR L m = L := by
 have e := kpR_take hm h
 have e2 : (kpR L m).length = m := by rw [e]; simp; omega
 exact ⟨e2, by unfold cpR; rw [e2, e, List.take_append_drop]⟩
def c61 : VCfg := ⟨⟨[64], [31, 61], [], [0, 1, 4, 5, 6, 7, 10, 15, 28, 35, 49]⟩, [(6, (.op 0 .loose (.op 1 .loose (.op 2 .loose (.op 3 .loose (.op 4 .loose (.op 5 .loose (.op 6 .loose (.op 7 .loose (.op 8 .loose (.op 9 .loose (.op 10 .eff .nil)))))))))))), (11, (.op 0 .loose (.op 1 .loose (.op 2 .loose (.op 3 .loose (.op 4 .loose (.op 5 .loose (.op 6 .loose (.op 7 .loose (.op 8 .loose (.op 9 .loose (.op 10 .eff (.op 11 .loose .nil)))))))))))))], [], []⟩
set_option maxHeartbeats 4000000 in
set_option maxRecDepth 100000 in
theorem g61 (y : Yc) (g : Gh) (L : List (List Int)) (ai : AI) (hl : L.length ≤ 1099511627776) (hB : ∀ r ∈ L, r.length ≤ 4611686018427387904) :
  GCall Tryz.prog y 61 g [.own 0, .clo 25 []] [.arr (.rows L) ai] (fun g' r A O => g' = g ∧ ((r = .own 0 ∧ A = [.own 0, .clo 25 []] ∧ O = [.arr (.rows L) ai] ∧ compR L = L) ∨ (r = .pay (.rows (compR L)) false ∧ ∃ a, A = [a, .clo 25 []] ∧ O = []))) := by
 have hBd : ∀ j, (L.getD j []).length ≤ 4611686018427387904 := fun j => by
  by_cases hj : j < L.length
  ·exact hB _ (getD_mem' hj)
  ·rw [List.getD_eq_getElem?_getD, List.getElem?_eq_none (by omega)]; simp
 refine gcall_intro (tyP_ok _) c61 2000 [.tmp 4] [0, 1] Tryz.func61 rfl (by rfl) rfl (by rfl) (by kernel_rfl) (by kernel_rfl) ?_
 unfold Tryz.f61
 simp -implicitDefEqProofs (maxSteps := 4000000) (disch := omega) only [push_cast, c61, Nat.reduceAdd, Nat.reduceSub, Nat.reduceMul, Nat.reduceBEq, Int.reduceToNat, Int.reduceNeg, Int.reduceLE, Int.reduceLT, Int.reduceBEq, Int.reduceBNe, Int.reduceEq, eq_self, reduceCtorEq]
 refine ⟨fun h2 => .inl (compR_short (by omega)), fun h2 => ?_⟩
 refine awp_upto (tyP_ok _) c61 2000 [0, 1, 4, 5] (L.length) (fun i => i + 1 ≤ L.length ∧ ∀ j, j < i + 1 → keptR L j = true) (fun i => ⟨66, [(0, .own 0), (1, .clo 25 []), (4, .pay (.rows []) true), (5, .int .i64 ((i : Int) + 1))], [.arr (.rows L) ai]⟩) (by kernel_rfl) ?_ ?_ ?_
 ·simp -implicitDefEqProofs (maxSteps := 4000000) (disch := omega) only [push_cast, c61, Nat.reduceAdd, Nat.reduceSub, Nat.reduceMul, Nat.reduceBEq, Int.reduceToNat, Int.reduceNeg, Int.reduceLE, Int.reduceLT, Int.reduceBEq, Int.reduceBNe, Int.reduceEq, eq_self, reduceCtorEq]
  rfl
 ·refine ⟨by omega, fun j hj => ?_⟩
  have : j = 0 := by omega
  subst this
  exact keptR_zero L
 rintro i hi ⟨hr1, hr2⟩
 simp -implicitDefEqProofs (maxSteps := 4000000) (disch := omega) only [push_cast, c61, Nat.reduceAdd, Nat.reduceSub, Nat.reduceMul, Nat.reduceBEq, Int.reduceToNat, Int.reduceNeg, Int.reduceLE, Int.reduceLT, Int.reduceBEq, Int.reduceBNe, Int.reduceEq, eq_self, reduceCtorEq]
 refine ⟨fun hlt => ⟨by omega, by omega, ?_⟩, fun hge => ?_⟩
 ·have e1 : ((i : Int) + 1).toNat = i + 1 := by omega
  have e2 : ((i : Int) + 1 - 1).toNat = i := by omega
  rw [e1, e2]
  refine callW_eq _ _ (f25 _ _ _ _ (hBd _)) ?_
  simp -implicitDefEqProofs (maxSteps := 4000000) (disch := omega) only [push_cast, c61, Nat.reduceAdd, Nat.reduceSub, Nat.reduceMul, Nat.reduceBEq, Int.reduceToNat, Int.reduceNeg, Int.reduceLE, Int.reduceLT, Int.reduceBEq, Int.reduceBNe, Int.reduceEq, eq_self, reduceCtorEq]
  refine ⟨fun he => ?_, fun hne => ?_⟩
  ·have hk : keptR L (i + 1) = false := by simp only [keptR, Nat.add_sub_cancel, he]; simp
   obtain ⟨hc1, hc2⟩ := cpR_all hr1 hr2
   rw [e1]
   refine ⟨by omega, ?_⟩
   refine awp_upto (tyP_ok _) c61 2000 [0, 1, 4, 5, 6, 7] (L.length) (fun j => i + 2 + j ≤ L.length ∧ (kpR L (i + 2 + j)).length ≤ i + 1 + j) (fun j => ⟨66, [(0, .own 0), (1, .clo 25 []), (4, .pay (.rows []) true), (5, .int .i64 ((kpR L (i + 2 + j)).length : Int)), (6, .mh 0 (.sub (i + 1))), (7, .int .i64 ((j : Int) + 1))], [.arr (.rows (cpR L (i + 2 + j))) ai]⟩) (by kernel_rfl) ?_ ?_ ?_
   ·have e3 := kpR_skip hk
    have e4 := cpR_skip hk
    rw [Nat.add_zero, e3, e4, hc1, hc2]
    simp -implicitDefEqProofs (maxSteps := 4000000) (disch := omega) only [push_cast, c61, Nat.reduceAdd, Nat.reduceSub, Nat.reduceMul, Nat.reduceBEq, Int.reduceToNat, Int.reduceNeg, Int.reduceLE, Int.reduceLT, Int.reduceBEq, Int.reduceBNe, Int.reduceEq, eq_self, reduceCtorEq]
    rfl
   ·rw [Nat.add_zero, kpR_skip hk]
    exact ⟨by omega, by omega⟩
   rintro j hj ⟨hj1, hj2⟩
   have hcl := cpR_len hj1
   simp -implicitDefEqProofs (maxSteps := 4000000) (disch := omega) only [push_cast, c61, hcl, Nat.reduceAdd, Nat.reduceSub, Nat.reduceMul, Nat.reduceBEq, Int.reduceToNat, Int.reduceNeg, Int.reduceLE, Int.reduceLT, Int.reduceBEq, Int.reduceBNe, Int.reduceEq, eq_self, reduceCtorEq]
   have e5 : i + 1 + ((j : Int) + 1).toNat = i + 2 + j := by omega
   have e6 : i + 1 + ((j : Int) + 1 - 1).toNat = i + 1 + j := by omega
   have h3 : (cpR L (i + 2 + j)).getD (i + 2 + j) [] = L.getD (i + 2 + j) [] := cpR_high (by omega)
   have h4 : (cpR L (i + 2 + j)).getD (i + 1 + j) [] = L.getD (i + 1 + j) [] := cpR_high (by omega)
   rw [e5, e6, h3, h4]
   refine ⟨fun hlt2 => ⟨by omega, by omega, ?_⟩, fun hge2 => ?_⟩
   ·refine callW_eq _ _ (f25 _ _ _ _ (hBd _)) ?_
    simp -implicitDefEqProofs (maxSteps := 4000000) (disch := omega) only [push_cast, c61, hcl, Nat.reduceAdd, Nat.reduceSub, Nat.reduceMul, Nat.reduceBEq, Int.reduceToNat, Int.reduceNeg, Int.reduceLE, Int.reduceLT, Int.reduceBEq, Int.reduceBNe, Int.reduceEq, eq_self, reduceCtorEq]
    rw [e5]
    refine ⟨fun hne => ?_, fun heq => ?_⟩
    ·have hk2 : keptR L (i + 2 + j) = true := by
      have : i + 2 + j - 1 = i + 1 + j := by omega
      simp only [keptR, this, decide_eq_true_eq]; exact Or.inr hne
     have e7 := cpR_keep (show i + 2 + j < L.length by omega) hk2
     have e8 := kpR_keep hk2
     rw [h3, show i + 2 + (j + 1) = i + 2 + j + 1 by omega, e7]
     exact ⟨by omega, by omega, by omega, ⟨by omega, by omega⟩, by omega, rfl⟩
    ·have hk2 : keptR L (i + 2 + j) = false := by
      have : i + 2 + j - 1 = i + 1 + j := by omega
      simp only [keptR, this, heq]; simp
     have e7 := cpR_skip hk2
     have e8 := kpR_skip hk2
     rw [show i + 2 + (j + 1) = i + 2 + j + 1 by omega, e7, e8]
     exact ⟨by omega, ⟨by omega, by omega⟩, rfl, rfl⟩
   ·have hm : i + 2 + j = L.length := by omega
    have e7 : (List.take (kpR L (i + 2 + j)).length (cpR L (i + 2 + j))) = kpR L (i + 2 + j) := by simp [cpR]
    have e8 : kpR L (i + 2 + j) = compR L := by rw [hm]; exact kpR_all L
    rw [e7, e8]
    rw [e8] at hj2
    exact ⟨by omega, by simp, .inr ⟨by simp, _, rfl⟩⟩
  ·exact ⟨by omega, by omega, upto_succ hr2 (by simp only [keptR, Nat.add_sub_cancel, decide_eq_true_eq]; exact .inr hne)⟩
 ·exact .inl (by rw [← kpR_all, kpR_take (Nat.le_refl _) fun j hj => hr2 j (by omega), List.take_length])
theorem f61 (y : Yc) (g : Gh) (L : List (List Int)) (ai : AI) (hl : L.length ≤ 1099511627776) (hB : ∀ r ∈ L, r.length ≤ 4611686018427387904) :
  GCall Tryz.prog y 61 g [.own 0, .clo 25 []] [.arr (.rows L) ai] (fun g' r A O => g' = g ∧ (∃ z, r = .pay (.rows (compR L)) z) ∧ A = [.junk, .junk] ∧ (O = [] ∨ O = [.dead])) := by
 refine (g61 y g L ai hl hB).frz ?_
 rintro g' r A O hA ⟨rfl, ⟨rfl, rfl, rfl, h⟩ | ⟨rfl, a, rfl, rfl⟩⟩
 ·refine ⟨[0], .pay (.rows L) ai.nz, [.pay (.rows L) ai.nz, .clo 25 []], [.dead], rfl, rfl, rfl, ⟨ai.nz, by rw [h]⟩, rfl, .inr rfl⟩
 ·exact ⟨[], _, _, _, rfl, rfl, rfl, ⟨_, rfl⟩, rfl, .inl rfl⟩
end Go.AM
end

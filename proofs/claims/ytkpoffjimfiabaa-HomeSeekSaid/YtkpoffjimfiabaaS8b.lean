/-
  Contracts of Set, Image and Compact; conditions in each statement.
-/
import Derived.Test.YtkpoffjimfiabaaS3
import Derived.Test.YtkpoffjimfiabaaP1
import Derived.Test.YtkpoffjimfiabaaF5
import Derived.Shelf.Slices.Cells
set_option linter.unusedVariables false
set_option linter.unusedSimpArgs false
set_option linter.unusedSectionVars false
set_option linter.unnecessarySimpa false

section
namespace Go.AM
open Go Go.Proofs
theorem f72 (y : Yc) (g : Gh) (l : List Int) (ai : AI) (hl : l.length < 4611686018427387904) : GCall Try.prog y 72 g [.own 0] [.arr (.ints .i64 l) ai] (fun g' r A O => g' = g ∧ r = .own 0 ∧ A = [.junk] ∧ O = [.arr (.ints .i64 (Lib.compact l)) ai]) := by
 refine gcall_cut Try.func72 rfl rfl (Lib.compact_length_le l) (fun h => ?_) (fun _ a cap w => Try.slices_Compact_int_empty a cap w) (fun w b cap hH hb hc => (Try.slices_Compact_int b 0 cap l w hH (by omega) hc).mono ?_)
 ·cases l with
  | nil => rfl
  | cons x l =>
   have : x ∈ Lib.compact (x :: l) := mem_compact.2 (by simp)
   rw [List.eq_nil_of_length_eq_zero h] at this
   cases this
 ·rintro e w' ⟨rfl, q, rfl⟩
  refine ⟨rfl, q, #[], (Lib.compact l ++ List.replicate (l.length - (Lib.compact l).length) 0).toArray, ?_, fun j hj => ?_, by rw [rowWorld, Sort.grow_empty]⟩
  ·have := Lib.compact_length_le l
   simp; omega
  ·rw [getElem!_pos _ j (by simp; omega)]
   simp [List.getElem_append_left hj, List.getD, hj]
def c103 : VCfg := ⟨⟨[], [], [], [0, 1, 2, 4, 5, 6, 7, 8, 9, 10, 30]⟩, [], [], []⟩
theorem f103 (a : List (List Int)) (z z' : Bool) (set : List Int) (hx : set.length ≤ 4611686018427387904) :
  ACall Try.prog 103 [.agg [.pay (.rows a) z], .pay (.ints .i64 set) z'] (fun r objs => r = .bool (setB a.length set) ∧ objs = []) := by
 refine acall_intro (tyP_ok _) c103 2000 [.tmp 4] Try.func103 rfl (by rfl) rfl (by kernel_rfl) ?_
 unfold Try.f103
 simp -implicitDefEqProofs (maxSteps := 4000000) (disch := omega) only [push_cast, c103, Nat.reduceAdd, Nat.reduceSub, Nat.reduceMul, Nat.reduceBEq, Int.reduceToNat, Int.reduceNeg, Int.reduceLE, Int.reduceLT, Int.reduceBEq, Int.reduceBNe, Int.reduceEq, eq_self, reduceCtorEq]
 refine awp_upto (tyP_ok _) c103 2000 [1, 2, 4, 7, 8, 9] (set.length) (fun i => ∀ j, j < i → (0 ≤ set.getD j 0 ∧ set.getD j 0 < a.length) ∧ (0 < j → set.getD (j - 1) 0 < set.getD j 0)) (fun i => ⟨32, [(1, .pay (.ints .i64 set) z'), (2, .fref [.pay (.rows a) z]), (4, .bool false), (7, .pay (.ints .i64 set) z'), (8, .int .i64 set.length), (9, .int .i64 i)], []⟩) (by kernel_rfl) rfl ?_ ?_
 ·exact fun j hj => by omega
 intro i hi hr
 simp -implicitDefEqProofs (maxSteps := 4000000) (disch := omega) only [push_cast, c103, Nat.reduceAdd, Nat.reduceSub, Nat.reduceMul, Nat.reduceBEq, Int.reduceToNat, Int.reduceNeg, Int.reduceLE, Int.reduceLT, Int.reduceBEq, Int.reduceBNe, Int.reduceEq, eq_self, reduceCtorEq]
 refine ⟨fun hlt => ⟨hlt, ?_⟩, fun hge => setB_true fun j hj => hr j (by omega)⟩
 refine callW_eq _ _ (f62 a z _) ?_
 simp -implicitDefEqProofs (maxSteps := 4000000) (disch := omega) only [push_cast, c103, Nat.reduceAdd, Nat.reduceSub, Nat.reduceMul, Nat.reduceBEq, Int.reduceToNat, Int.reduceNeg, Int.reduceLE, Int.reduceLT, Int.reduceBEq, Int.reduceBNe, Int.reduceEq, eq_self, reduceCtorEq]
 have nxt : (0 ≤ set.getD i 0 ∧ set.getD i 0 < (a.length : Int)) → (0 < i → set.getD (i - 1) 0 < set.getD i 0) → (∀ j, j < i + 1 → (0 ≤ set.getD j 0 ∧ set.getD j 0 < a.length) ∧ (0 < j → set.getD (j - 1) 0 < set.getD j 0)) := fun h1 h2 j hj => by
  rcases Nat.lt_succ_iff_lt_or_eq.1 hj with hj | rfl
  ·exact hr j hj
  ·exact ⟨h1, h2⟩
 refine ⟨fun h => setB_bad hlt h, fun h => ⟨fun h0 => ⟨by omega, fun h1 => ?_, fun h1 => ⟨hlt, nxt h (fun _ => ?_)⟩⟩, fun h0 => ⟨hlt, nxt h (fun h => by omega)⟩⟩⟩
 ·exact setB_bad2 hlt h0 (by rwa [show ((i : Int) - 1).toNat = i - 1 by omega] at h1)
 ·rwa [show ((i : Int) - 1).toNat = i - 1 by omega] at h1
def c69 : VCfg := ⟨⟨[], [], [], [0, 1, 2, 3, 5, 6, 8, 10, 11, 12, 13]⟩, [], [71, 72], [25, 27]⟩
theorem f69 (a : List (List Int)) (z z' z'' : Bool) (met : AV) (set word : List Int) (hx : word.length ≤ 4611686018427387904) (k : Nat) (hv : Vld a k) (hs : setOk a.length set) (hw : ∀ x ∈ word, 0 ≤ x ∧ x < k) :
  ACall Try.prog 69 [met, .fref [.pay (.ints .i64 set) z], .fref [.pay (.rows a) z'], .fref [.pay (.ints .i64 word) z'']] (fun r objs => r = .own 0 ∧ objs = [.arr (.ints .i64 (imageL a set word)) ⟨3, false⟩]) := by
 have hn := hv.n2
 have hsl := hs.len
 refine acall_intro (tyP_ok _) c69 2000 [.tmp 5] Try.func69 rfl (by rfl) rfl (by kernel_rfl) ?_
 unfold Try.f69
 simp -implicitDefEqProofs (maxSteps := 4000000) (disch := omega) only [push_cast, c69, Nat.reduceAdd, Nat.reduceSub, Nat.reduceMul, Nat.reduceBEq, Int.reduceToNat, Int.reduceNeg, Int.reduceLE, Int.reduceLT, Int.reduceBEq, Int.reduceBNe, Int.reduceEq, eq_self, reduceCtorEq]
 refine awp_upto (tyP_ok _) c69 2000 [1, 2, 3, 5, 6, 10, 11, 12] (set.length) (fun _ => True) (fun i => ⟨28, [(1, .fref [.pay (.ints .i64 set) z]), (2, .fref [.pay (.rows a) z']), (3, .fref [.pay (.ints .i64 word) z'']), (5, .pay (.ints .i64 []) true), (6, .own 0), (10, .pay (.ints .i64 set) z), (11, .int .i64 set.length), (12, .int .i64 i)], [.arr (.ints .i64 ((set.take i).map fun s => leadG a s word)) ⟨3, false⟩]⟩) (by kernel_rfl) rfl ?_ ?_
 ·trivial
 intro i hi _
 simp -implicitDefEqProofs (maxSteps := 4000000) (disch := omega) only [push_cast, c69, Nat.reduceAdd, Nat.reduceSub, Nat.reduceMul, Nat.reduceBEq, Int.reduceToNat, Int.reduceNeg, Int.reduceLE, Int.reduceLT, Int.reduceBEq, Int.reduceBNe, Int.reduceEq, eq_self, reduceCtorEq]
 refine ⟨fun hlt => ⟨hlt, ?_⟩, fun hge => ?_⟩
 ·have hx1 := hs.1 _ (getD_mem hlt)
  refine callW_eq _ _ (f70 a z' z'' _ word hx k hv hx1 hw) ?_
  simp -implicitDefEqProofs (maxSteps := 4000000) (disch := omega) only [push_cast, c69, Nat.reduceAdd, Nat.reduceSub, Nat.reduceMul, Nat.reduceBEq, Int.reduceToNat, Int.reduceNeg, Int.reduceLE, Int.reduceLT, Int.reduceBEq, Int.reduceBNe, Int.reduceEq, eq_self, reduceCtorEq]
  refine ⟨by simp; omega, hlt, ?_⟩
  rw [List.take_succ_eq_append_getElem hlt, List.map_append]
  simp [hlt]
 ·rw [List.take_of_length_le hge]
  have hli : ((set.map fun s => leadG a s word).length) ≤ 60 := by simp; omega
  refine lcallW_eq _ _ _ (f71 _ _ _ _ (by omega)) ?_
  simp -implicitDefEqProofs (maxSteps := 4000000) (disch := omega) only [push_cast, c69, Nat.reduceAdd, Nat.reduceSub, Nat.reduceMul, Nat.reduceBEq, Int.reduceToNat, Int.reduceNeg, Int.reduceLE, Int.reduceLT, Int.reduceBEq, Int.reduceBNe, Int.reduceEq, eq_self, reduceCtorEq]
  refine lcallW_eq _ _ _ (f72 _ _ _ _ (by rw [sortL_len]; omega)) ?_
  simp -implicitDefEqProofs (maxSteps := 4000000) (disch := omega) only [push_cast, c69, Nat.reduceAdd, Nat.reduceSub, Nat.reduceMul, Nat.reduceBEq, Int.reduceToNat, Int.reduceNeg, Int.reduceLE, Int.reduceLT, Int.reduceBEq, Int.reduceBNe, Int.reduceEq, eq_self, reduceCtorEq]
  rw [show Lib.compact (sortL (set.map fun s => leadG a s word)) = imageL a set word from imageL_eq hv hs hw]
def c73 : VCfg := ⟨⟨[], [], [], [0, 1, 2, 3, 4, 8, 9, 10, 12, 13, 17, 32, 33, 34, 35]⟩, [], [], []⟩
theorem f73 (a : List (List Int)) (z z' z'' : Bool) (set word : List Int) (hl : a.length ≤ 4611686018427387904) (hl2 : ∀ r ∈ a, r.length ≤ 4611686018427387904) (hx : set.length ≤ 4611686018427387904) (hw : word.length ≤ 4611686018427387904) (g : FuncId) (caps : List AV) (hc : NoH caps) (L : List Int) (ai : AI)
  (hg : ∀ k, Vld a k → setOk a.length set → (∀ x ∈ word, 0 ≤ x ∧ x < k) → ∀ zm, ACall Try.prog g (.pay (.bools (boolsOf a.length set)) zm :: caps) (fun r objs => r = .own 0 ∧ objs = [.arr (.ints .i64 L) ai])) :
  ACall Try.prog 73 [.agg [.pay (.rows a) z], .pay (.ints .i64 set) z', .pay (.ints .i64 word) z'', .clo g caps] (fun r objs => ∃ l e nz, SetsR a set word L l e ∧ r = .tup [.pay (.ints .i64 l) nz, .int .i64 e] ∧ objs = []) := by
 suffices h : ACall Try.prog 73 [.agg [.pay (.rows a) z], .pay (.ints .i64 set) z', .pay (.ints .i64 word) z'', .clo g caps] (fun r objs => ∃ l e, SetsR a set word L l e ∧ ((∃ nz, r = .tup [.pay (.ints .i64 l) nz, .int .i64 e] ∧ objs = []) ∨ (r = .tup [.own 0, .int .i64 e] ∧ objs = [.arr (.ints .i64 l) ai]))) by
  refine h.frz ?_
  rintro r objs ⟨l, e, h1, ⟨nz, rfl, rfl⟩ | ⟨rfl, rfl⟩⟩
  ·exact ⟨[], _, 0, rfl, l, e, nz, h1, rfl, rfl⟩
  ·exact ⟨[0], _, 1, rfl, l, e, ai.nz, h1, rfl, rfl⟩
 refine acall_intro (tyP_ok _) c73 2000 [.tmp 8, .tmp 9] Try.func73 rfl (by rfl) rfl (by kernel_rfl) ?_
 unfold Try.f73
 simp -implicitDefEqProofs (maxSteps := 4000000) (disch := omega) only [push_cast, c73, hc.hs, hc.mp, hc.no2, hc.no3, Nat.reduceAdd, Nat.reduceSub, Nat.reduceMul, Nat.reduceBEq, Int.reduceToNat, Int.reduceNeg, Int.reduceLE, Int.reduceLT, Int.reduceBEq, Int.reduceBNe, Int.reduceEq, eq_self, reduceCtorEq]
 refine callW_eq _ _ (f30 a z hl hl2) ?_
 simp -implicitDefEqProofs (maxSteps := 4000000) (disch := omega) only [push_cast, c73, hc.hs, hc.mp, hc.no2, hc.no3, Nat.reduceAdd, Nat.reduceSub, Nat.reduceMul, Nat.reduceBEq, Int.reduceToNat, Int.reduceNeg, Int.reduceLE, Int.reduceLT, Int.reduceBEq, Int.reduceBNe, Int.reduceEq, eq_self, reduceCtorEq]
 refine ⟨fun hv => ⟨[], 1, .inl ⟨hv, rfl, rfl⟩, .inl ⟨true, ⟨rfl, rfl⟩, rfl⟩⟩, fun hv => ?_⟩
 have hV := vldB_iff.1 hv
 have hn := hV.n2
 have hn0 := hV.n1
 refine callW_eq _ _ (f103 a z z' set hx) ?_
 simp -implicitDefEqProofs (maxSteps := 4000000) (disch := omega) only [push_cast, c73, hc.hs, hc.mp, hc.no2, hc.no3, Nat.reduceAdd, Nat.reduceSub, Nat.reduceMul, Nat.reduceBEq, Int.reduceToNat, Int.reduceNeg, Int.reduceLE, Int.reduceLT, Int.reduceBEq, Int.reduceBNe, Int.reduceEq, eq_self, reduceCtorEq]
 refine ⟨fun hs => ⟨[], 2, .inr (.inl ⟨hv, .inl hs, rfl, rfl⟩), .inl ⟨true, ⟨rfl, rfl⟩, rfl⟩⟩, fun hs => ?_⟩
 refine callW_eq _ _ (f64 a z z'' word (by omega) hw) ?_
 simp -implicitDefEqProofs (maxSteps := 4000000) (disch := omega) only [push_cast, c73, hc.hs, hc.mp, hc.no2, hc.no3, Nat.reduceAdd, Nat.reduceSub, Nat.reduceMul, Nat.reduceBEq, Int.reduceToNat, Int.reduceNeg, Int.reduceLE, Int.reduceLT, Int.reduceBEq, Int.reduceBNe, Int.reduceEq, eq_self, reduceCtorEq]
 refine ⟨fun hw => ⟨[], 2, .inr (.inl ⟨hv, .inr hw, rfl, rfl⟩), .inl ⟨true, ⟨rfl, rfl⟩, rfl⟩⟩, fun hwd => ⟨by omega, ?_⟩⟩
 have hS : setOk a.length set := of_decide_eq_true hs
 have hsl := hS.len
 refine awp_upto (tyP_ok _) c73 2000 [1, 3, 8, 9, 10, 32, 33, 34] (set.length) (fun _ => True) (fun i => ⟨45, [(1, .pay (.ints .i64 set) z'), (3, .clo g caps), (8, .pay (.ints .i64 []) true), (9, .int .i64 0), (10, .own 0), (32, .pay (.ints .i64 set) z'), (33, .int .i64 set.length), (34, .int .i64 i)], [.arr (.bools (boolsOf a.length (set.take i))) ⟨4, false⟩]⟩) (by kernel_rfl) ?_ ?_ ?_
 ·rw [List.take_zero, boolsOf_nil]; simp -implicitDefEqProofs (maxSteps := 4000000) (disch := omega) only [push_cast, c73, hc.hs, hc.mp, hc.no2, hc.no3, Nat.reduceAdd, Nat.reduceSub, Nat.reduceMul, Nat.reduceBEq, Int.reduceToNat, Int.reduceNeg, Int.reduceLE, Int.reduceLT, Int.reduceBEq, Int.reduceBNe, Int.reduceEq, eq_self, reduceCtorEq]
 ·trivial
 intro i hi _
 simp -implicitDefEqProofs (maxSteps := 4000000) (disch := omega) only [push_cast, c73, hc.hs, hc.mp, hc.no2, hc.no3, boolsOf_len, Nat.reduceAdd, Nat.reduceSub, Nat.reduceMul, Nat.reduceBEq, Int.reduceToNat, Int.reduceNeg, Int.reduceLE, Int.reduceLT, Int.reduceBEq, Int.reduceBNe, Int.reduceEq, eq_self, reduceCtorEq]
 refine ⟨fun hlt => ?_, fun hge => ?_⟩
 ·have hx1 := hS.1 _ (getD_mem hlt)
  refine ⟨hlt, hx1, hlt, ?_⟩
  rw [boolsOf_set hx1.1 hx1.2, List.take_succ_eq_append_getElem hlt]
  simp [List.getD, hlt]
 ·rw [List.take_of_length_le hge]
  refine callW_eq _ _ (hg _ hV hS (wordB_iff.1 hwd).2 false) ?_
  simp -implicitDefEqProofs (maxSteps := 4000000) (disch := omega) only [push_cast, c73, hc.hs, hc.mp, hc.no2, hc.no3, Nat.reduceAdd, Nat.reduceSub, Nat.reduceMul, Nat.reduceBEq, Int.reduceToNat, Int.reduceNeg, Int.reduceLE, Int.reduceLT, Int.reduceBEq, Int.reduceBNe, Int.reduceEq, eq_self, reduceCtorEq]
  exact ⟨L, 0, .inr (.inr ⟨hv, hs, hwd, rfl, rfl⟩), .inr ⟨rfl, rfl⟩⟩
def c31 : VCfg := ⟨⟨[], [], [], [0, 1, 2, 3, 4, 5, 6, 7, 8]⟩, [], [], []⟩
theorem f31 (a : List (List Int)) (z z' z'' : Bool) (set word : List Int) (hl : a.length ≤ 4611686018427387904) (hl2 : ∀ r ∈ a, r.length ≤ 4611686018427387904) (hx : set.length ≤ 4611686018427387904) (hw : word.length ≤ 4611686018427387904) :
  ACall Try.prog 31 [.agg [.pay (.rows a) z], .pay (.ints .i64 set) z', .pay (.ints .i64 word) z''] (fun r objs => ∃ l e nz, SetsR a set word (imageL a set word) l e ∧ r = .tup [.pay (.ints .i64 l) nz, .int .i64 e] ∧ objs = []) := by
 refine acall_intro (tyP_ok _) c31 2000 [.tmp 6, .tmp 7] Try.func31 rfl (by rfl) rfl (by kernel_rfl) ?_
 unfold Try.f31
 simp -implicitDefEqProofs (maxSteps := 4000000) (disch := omega) only [push_cast, c31, Nat.reduceAdd, Nat.reduceSub, Nat.reduceMul, Nat.reduceBEq, Int.reduceToNat, Int.reduceNeg, Int.reduceLE, Int.reduceLT, Int.reduceBEq, Int.reduceBNe, Int.reduceEq, eq_self, reduceCtorEq]
 refine callW_rel (f73 a z z' z'' set word hl hl2 hx hw 69 _ (NoH.of rfl rfl) (imageL a set word) ⟨3, false⟩ fun k hv hs hwd zm => f69 a z' z z'' _ set word hw k hv hs hwd) ?_
 rintro R O ⟨l, e, nz, h, rfl, rfl⟩
 simp -implicitDefEqProofs (maxSteps := 4000000) (disch := omega) only [push_cast, c31, Nat.reduceAdd, Nat.reduceSub, Nat.reduceMul, Nat.reduceBEq, Int.reduceToNat, Int.reduceNeg, Int.reduceLE, Int.reduceLT, Int.reduceBEq, Int.reduceBNe, Int.reduceEq, eq_self, reduceCtorEq]
 exact ⟨l, e, nz, h, ⟨rfl, rfl⟩, rfl⟩
end Go.AM
end

/-
  Contracts of the walk, Outs, Run, ClassesOf, Classes on both sides; conditions in each statement.
-/
import Derived.Test.YtkpoffjimfiabaaS1
import Derived.Test.YtkpoffjimfiabaaP2
import Derived.Test.YtkpoffjimfiabaaF5
set_option linter.unusedVariables false
set_option linter.unusedSimpArgs false
set_option linter.unusedSectionVars false
set_option linter.unnecessarySimpa false

section
namespace Go.AM
open Go Go.Proofs
def xsO (N O : List (List Int)) (s : Int) (w : List Int) : List (List AV) := (outsG N O s w).map fun y => [.int .i64 y]
theorem xsO_len (N O : List (List Int)) (s : Int) (w : List Int) : (xsO N O s w).length = w.length := by simp [xsO, outsG_len]
theorem outsG_get {N O : List (List Int)} : ∀ {w : List Int} {s : Int} {i : Nat}, i < w.length → (outsG N O s w).getD i 0 = outG O (leadG N s (w.take i)) (w.getD i 0)
 | x :: w, s, 0, _ => by simp [outsG, leadG]
 | x :: w, s, i + 1, h => by
  have := outsG_get (N := N) (O := O) (w := w) (s := nxG N s x) (i := i) (by simpa using h)
  simp only [outsG, List.getD_cons_succ, this, List.take_succ_cons, leadG]
  rfl
def c112 : VCfg := ⟨⟨[], [], [], [0, 1, 2, 5, 6, 7, 8, 9, 10, 47]⟩, [(3, (.op 0 .loose (.op 1 .loose (.op 2 .loose (.op 3 .loose (.op 4 .loose (.op 5 .loose (.op 6 .loose (.op 7 .loose (.op 8 .loose (.op 9 .loose (.op 10 .loose (.op 11 .loose (.op 12 .loose (.op 13 .loose (.op 14 .loose .nil)))))))))))))))), (4, (.op 0 .loose (.op 1 .loose (.op 2 .loose (.op 3 .loose (.op 4 .loose (.op 5 .loose (.op 6 .loose (.op 7 .loose (.op 8 .loose (.op 9 .loose (.op 10 .loose (.op 11 .loose (.op 12 .loose (.op 13 .loose (.op 14 .loose (.op 15 .strict (.op 16 .loose (.op 17 .eff .nil)))))))))))))))))))], [], [46]⟩
def O112 (N O : List (List Int)) (z z' : Bool) (s : Int) : List AObj := [.box [.pay (.rows N) z, .pay (.rows O) z', .int .i64 s]]
set_option maxRecDepth 100000 in
theorem f112 (l : Nat) (N O : List (List Int)) (z z' y : Bool) (s : Int) (w : List Int) (k : Nat) (hV : VM N O k) (hs : 0 ≤ s ∧ s < N.length) (hw : ∀ x ∈ w, 0 ≤ x ∧ x < k) (hl : w.length ≤ 4611686018427387904) :
  GCall Try.prog ⟨l, xsO N O s w⟩ 112 (false, 0) [.lit (.func (.yield l) #[] #[]), .fref [.pay (.ints .i64 w) y], .hbox (.ref 0 0)] (O112 N O z z' s) (fun g' _ A O' => (g'.1 = false → g'.2 = w.length ∧ O' = O112 N O z z' (leadG N s w)) ∧ A.tail = [.fref [.pay (.ints .i64 w) y], .hbox (.ref 0 0)]) := by
 unfold O112
 refine gcall_intro (tyP_ok _) c112 2000 [] [0, 1, 2] Try.func112 rfl (by rfl) rfl (by rfl) (by kernel_rfl) (by kernel_rfl) ?_
 unfold Try.f112
 simp -implicitDefEqProofs (maxSteps := 4000000) (disch := omega) only [push_cast, c112, Nat.reduceAdd, Nat.reduceSub, Nat.reduceMul, Nat.reduceBEq, Int.reduceToNat, Int.reduceNeg, Int.reduceLE, Int.reduceLT, Int.reduceBEq, Int.reduceBNe, Int.reduceEq, eq_self, reduceCtorEq]
 refine awp_loop (tyP_ok _) c112 2000 [0, 1, 2, 7, 8, 9] (fun n g st => ∃ i : Nat, g = (false, i) ∧ i ≤ w.length ∧ n = w.length - i ∧ st = ⟨49, [(0, .lit (.func (.yield l) #[] #[])), (1, .fref [.pay (.ints .i64 w) y]), (2, .hbox (.ref 0 0)), (7, .pay (.ints .i64 w) y), (8, .int .i64 w.length), (9, .int .i64 i)], [.box [.pay (.rows N) z, .pay (.rows O) z', .int .i64 (leadG N s (w.take i))]]⟩) w.length (by kernel_rfl) ?_ ?_
 ·exact ⟨0, rfl, by omega, rfl, rfl⟩
 rintro n g st ⟨i, rfl, hi, rfl, rfl⟩
 simp -implicitDefEqProofs (maxSteps := 4000000) (disch := omega) only [push_cast, c112, Nat.reduceAdd, Nat.reduceSub, Nat.reduceMul, Nat.reduceBEq, Int.reduceToNat, Int.reduceNeg, Int.reduceLE, Int.reduceLT, Int.reduceBEq, Int.reduceBNe, Int.reduceEq, eq_self, reduceCtorEq]
 refine ⟨fun hlt => ?_, fun hge => ⟨by omega, by rw [List.take_of_length_le hge]⟩⟩
 have hlead := hV.v.lead (w.take i) hs.1 hs.2 fun x hx => hw x (List.mem_of_mem_take hx)
 have hx1 := hw _ (getD_mem hlt)
 have hat := hV.v.at hlead.1 hlead.2 hx1.1 hx1.2
 have hou := hV.out hlead.1 hlead.2 hx1.1 hx1.2
 have hol := hV.ol
 refine ⟨hlt, ⟨hlead.1, by omega⟩, ⟨hx1.1, by rw [hou.1]; exact hx1.2⟩, hlead, ⟨hx1.1, by rw [hat.1]; exact hx1.2⟩, ⟨by rw [xsO_len]; exact hlt, ?_⟩, w.length - (i + 1), by omega, i + 1, rfl, by omega, rfl, rfl, ?_⟩
 ·simp only [xsO, List.getElem_map]
  have h1 := outsG_get (N := N) (O := O) (s := s) hlt
  have h2 : i < (outsG N O s w).length := by rw [outsG_len]; exact hlt
  rw [show (outsG N O s w)[i] = (outsG N O s w).getD i 0 by simp [h2], h1]
  rfl
 ·exact (leadG_take N s w i hlt).symm
def c98 : VCfg := ⟨⟨[], [], [], [0, 1, 2, 3, 4]⟩, [], [], []⟩
theorem f98 (y0 : Yc) (g : Gh) (N O : List (List Int)) (z z' y : Bool) (s : Int) (w : List Int) :
  GCall Try.prog y0 98 g [.ref 0 0, .pay (.ints .i64 w) y] (O112 N O z z' s) (fun g' r A O' => g' = g ∧ r = .clo 112 [.fref [.pay (.ints .i64 w) y], .hbox (.ref 0 0)] ∧ A = [.ref 0 0, .pay (.ints .i64 w) y] ∧ O' = O112 N O z z' s) := by
 unfold O112
 refine gcall_intro (tyP_ok _) c98 2000 [.tmp 4] [0, 1] Try.func98 rfl (by rfl) rfl (by rfl) (by kernel_rfl) (by kernel_rfl) ?_
 unfold Try.f98
 simp -implicitDefEqProofs (maxSteps := 4000000) (disch := omega) only [push_cast, c98, Nat.reduceAdd, Nat.reduceSub, Nat.reduceMul, Nat.reduceBEq, Int.reduceToNat, Int.reduceNeg, Int.reduceLE, Int.reduceLT, Int.reduceBEq, Int.reduceBNe, Int.reduceEq, eq_self, reduceCtorEq]
def c111 : VCfg := ⟨⟨[2], [], [], [0, 1, 2, 4, 5, 6, 7]⟩, [], [], []⟩
set_option maxHeartbeats 4000000 in
set_option maxRecDepth 100000 in
theorem f111 (N O : List (List Int)) (z z' y : Bool) (s : Int) (w : List Int) (k : Nat) (hV : VM N O k) (hs : 0 ≤ s ∧ s < N.length) (hw : ∀ x ∈ w, 0 ≤ x ∧ x < k) (hl : w.length ≤ 140737488355) :
  GCall Try.prog noY 111 (false, 0) [.lit (.slice none 0 0), .clo 112 [.fref [.pay (.ints .i64 w) y], .hbox (.ref 0 0)]] (O112 N O z z' s)
   (fun g' r A O' => g' = (false, 0) ∧ r = .own 0 ∧ A = [.junk, .clo 112 [.fref [.pay (.ints .i64 w) y], .hbox (.ref 1 0)]] ∧ O' = .arr (.ints .i64 (outsG N O s w)) ⟨3, true⟩ :: O112 N O z z' (leadG N s w)) := by
 unfold O112
 refine gcall_intro (tyP_ok _) c111 2000 [.tmp 4] [0, 1] Try.func111 rfl (by rfl) rfl (by rfl) (by kernel_rfl) (by kernel_rfl) ?_
 unfold Try.f111
 simp -implicitDefEqProofs (maxSteps := 4000000) (disch := omega) only [push_cast, c111, Nat.reduceAdd, Nat.reduceSub, Nat.reduceMul, Nat.reduceBEq, Int.reduceToNat, Int.reduceNeg, Int.reduceLE, Int.reduceLT, Int.reduceBEq, Int.reduceBNe, Int.reduceEq, eq_self, reduceCtorEq]
 refine awp_virt (i := 1) (c := 0) (p := .ints .i64 []) 3 rfl rfl rfl ?_
 refine awp_range (tyP_ok _) c111 2000 (xsO N O s w) [1, 2, 4] (fun j st => j ≤ w.length ∧ st = ⟨13, [(1, .clo 112 [.fref [.pay (.ints .i64 w) y], .hbox .junk]), (2, .ref 0 0), (4, .pay (.ints .i64 []) true)], [.box [.own 1], .arr (.ints .i64 ((outsG N O s w).take j)) ⟨3, true⟩]⟩)
   (fun _ _ _ => False) (fun g' _ A O' => (g'.1 = false → g'.2 = w.length ∧ O' = O112 N O z z' (leadG N s w)) ∧ A.tail = [.fref [.pay (.ints .i64 w) y], .hbox (.ref 0 0)]) rfl (by rfl) ?_ (by kernel_rfl) (by kernel_rfl) (by kernel_rfl) (by kernel_rfl) ?_ ?_ ?_ ?_
 ·intro j hj
  simp [xsO]
 ·intro l
  simp -implicitDefEqProofs (maxSteps := 4000000) (disch := omega) only [push_cast, c111, Nat.reduceAdd, Nat.reduceSub, Nat.reduceMul, Nat.reduceBEq, Int.reduceToNat, Int.reduceNeg, Int.reduceLE, Int.reduceLT, Int.reduceBEq, Int.reduceBNe, Int.reduceEq, eq_self, reduceCtorEq]
  exact f112 l N O z z' y s w k hV hs hw (by omega)
 ·simp -implicitDefEqProofs (maxSteps := 4000000) (disch := omega) only [push_cast, c111, Nat.reduceAdd, Nat.reduceSub, Nat.reduceMul, Nat.reduceBEq, Int.reduceToNat, Int.reduceNeg, Int.reduceLE, Int.reduceLT, Int.reduceBEq, Int.reduceBNe, Int.reduceEq, eq_self, reduceCtorEq]
  exact Nat.zero_le _
 ·intro j hj st hI
  obtain ⟨hjl, rfl⟩ := hI
  have e : (xsO N O s w)[j] = [.int .i64 ((outsG N O s w).getD j 0)] := by
   have : j < (outsG N O s w).length := by simpa [xsO] using hj
   simp [xsO, List.getD, this]
  rw [e]
  have hj' : j < (outsG N O s w).length := by simpa [xsO] using hj
  have hwl : j < w.length := by rw [outsG_len] at hj'; exact hj'
  simp -implicitDefEqProofs (maxSteps := 4000000) (disch := omega) only [push_cast, c111, Nat.reduceAdd, Nat.reduceSub, Nat.reduceMul, Nat.reduceBEq, Int.reduceToNat, Int.reduceNeg, Int.reduceLE, Int.reduceLT, Int.reduceBEq, Int.reduceBNe, Int.reduceEq, eq_self, reduceCtorEq]
  refine ⟨by rw [List.length_take]; omega, by omega, ?_⟩
  rw [List.take_succ_eq_append_getElem hj']
  simp [hj']
 ·rintro g' r A O' ⟨hg, hA⟩
  refine ⟨fun h1 st ⟨hp, hst⟩ => ?_, fun _ _ _ h => h.elim⟩
  obtain ⟨h2, rfl⟩ := hg h1
  subst hst
  rw [h2, List.take_of_length_le (by rw [outsG_len]; omega)]
  simp -implicitDefEqProofs (maxSteps := 4000000) (disch := omega) only [push_cast, c111, hA, O112, Nat.reduceAdd, Nat.reduceSub, Nat.reduceMul, Nat.reduceBEq, Int.reduceToNat, Int.reduceNeg, Int.reduceLE, Int.reduceLT, Int.reduceBEq, Int.reduceBNe, Int.reduceEq, eq_self, reduceCtorEq]
def c97 : VCfg := ⟨⟨[], [], [], [0, 2]⟩, [], [111], [4]⟩
set_option maxRecDepth 100000 in
theorem f97 (N O : List (List Int)) (z z' y : Bool) (s : Int) (w : List Int) (k : Nat) (hV : VM N O k) (hs : 0 ≤ s ∧ s < N.length) (hw : ∀ x ∈ w, 0 ≤ x ∧ x < k) (hl : w.length ≤ 140737488355) :
  GCall Try.prog noY 97 (false, 0) [.clo 112 [.fref [.pay (.ints .i64 w) y], .hbox (.ref 0 0)]] (O112 N O z z' s)
   (fun g' r A O' => g' = (false, 0) ∧ r = .own 0 ∧ A = [.clo 112 [.fref [.pay (.ints .i64 w) y], .hbox (.ref 1 0)]] ∧ O' = .arr (.ints .i64 (outsG N O s w)) ⟨3, true⟩ :: O112 N O z z' (leadG N s w)) := by
 have h := f111 N O z z' y s w k hV hs hw hl
 unfold O112 at h ⊢
 refine gcall_intro (tyP_ok _) c97 2000 [.tmp 2] [0] Try.func97 rfl (by rfl) rfl (by rfl) (by kernel_rfl) (by kernel_rfl) ?_
 unfold Try.f97
 simp -implicitDefEqProofs (maxSteps := 4000000) (disch := omega) only [push_cast, c97, Nat.reduceAdd, Nat.reduceSub, Nat.reduceMul, Nat.reduceBEq, Int.reduceToNat, Int.reduceNeg, Int.reduceLE, Int.reduceLT, Int.reduceBEq, Int.reduceBNe, Int.reduceEq, eq_self, reduceCtorEq]
 refine lcallW_eq _ _ _ h ?_
 simp -implicitDefEqProofs (maxSteps := 4000000) (disch := omega) only [push_cast, c97, Nat.reduceAdd, Nat.reduceSub, Nat.reduceMul, Nat.reduceBEq, Int.reduceToNat, Int.reduceNeg, Int.reduceLE, Int.reduceLT, Int.reduceBEq, Int.reduceBNe, Int.reduceEq, eq_self, reduceCtorEq]
def c65 : VCfg := ⟨⟨[13], [], [], [0, 1, 2, 3, 6, 7, 8, 9]⟩, [(3, (.op 0 .loose (.op 1 .loose (.op 2 .loose (.op 3 .loose (.op 4 .loose (.op 5 .loose (.op 6 .loose .nil))))))))], [98, 97], [16, 17]⟩
set_option maxRecDepth 100000 in
theorem f65 (N O : List (List Int)) (z z' y : Bool) (s : Int) (w : List Int) (k : Nat) (hV : VM N O k) (hs : 0 ≤ s ∧ s < N.length) (hw : ∀ x ∈ w, 0 ≤ x ∧ x < k) (hl : w.length ≤ 140737488355) :
  ACall Try.prog 65 [.agg [.pay (.rows (N)) (z), .pay (.rows (O)) (z')], .int .i64 s, .pay (.ints .i64 w) y] (fun r objs => r = .tup [.pay (.ints .i64 (outsG N O s w)) true, .int .i64 (leadG N s w)] ∧ objs = []) := by
 suffices h : ACall Try.prog 65 [.agg [.pay (.rows (N)) (z), .pay (.rows (O)) (z')], .int .i64 s, .pay (.ints .i64 w) y] (fun r objs => r = .tup [.own 0, .int .i64 (leadG N s w)] ∧ objs = [.arr (.ints .i64 (outsG N O s w)) ⟨3, true⟩]) by
  refine h.frz ?_
  rintro r objs ⟨rfl, rfl⟩
  exact ⟨[0], _, 1, rfl, rfl, rfl⟩
 have h1 := f98 noY (false, 0) N O z z' y s w
 have h2 := f97 N O z z' y s w k hV hs hw hl
 unfold O112 at h1 h2
 refine acall_intro (tyP_ok _) c65 2000 [.tmp 6, .tmp 7] Try.func65 rfl (by rfl) rfl (by kernel_rfl) ?_
 unfold Try.f65
 simp -implicitDefEqProofs (maxSteps := 4000000) (disch := omega) only [push_cast, c65, Nat.reduceAdd, Nat.reduceSub, Nat.reduceMul, Nat.reduceBEq, Int.reduceToNat, Int.reduceNeg, Int.reduceLE, Int.reduceLT, Int.reduceBEq, Int.reduceBNe, Int.reduceEq, eq_self, reduceCtorEq]
 refine lcallW_eq _ _ _ h1 ?_
 simp -implicitDefEqProofs (maxSteps := 4000000) (disch := omega) only [push_cast, c65, Nat.reduceAdd, Nat.reduceSub, Nat.reduceMul, Nat.reduceBEq, Int.reduceToNat, Int.reduceNeg, Int.reduceLE, Int.reduceLT, Int.reduceBEq, Int.reduceBNe, Int.reduceEq, eq_self, reduceCtorEq]
 refine lcallW_eq _ _ _ h2 ?_
 simp -implicitDefEqProofs (maxSteps := 4000000) (disch := omega) only [push_cast, c65, Nat.reduceAdd, Nat.reduceSub, Nat.reduceMul, Nat.reduceBEq, Int.reduceToNat, Int.reduceNeg, Int.reduceLE, Int.reduceLT, Int.reduceBEq, Int.reduceBNe, Int.reduceEq, eq_self, reduceCtorEq]
end Go.AM
end

section
namespace Go.AM
open Go Go.Proofs
def RunMR (N O : List (List Int)) (s : Int) (w : List Int) (out : List Int) (t e : Int) : Prop :=
 (vmB N O = false ∧ e = 1 ∧ t = 0 ∧ out = []) ∨ (vmB N O = true ∧ ¬ ((0 ≤ s ∧ s < N.length) ∧ wordB (N.getD 0 []).length w = true) ∧ e = 2 ∧ t = 0 ∧ out = []) ∨
 (vmB N O = true ∧ ((0 ≤ s ∧ s < N.length) ∧ wordB (N.getD 0 []).length w = true) ∧ e = 0 ∧ t = leadG N s w ∧ out = outsG N O s w)
theorem RunMR.e0 {N O : List (List Int)} {s : Int} {w out : List Int} {t e : Int} (h : RunMR N O s w out t e) (he : e = 0) : vmB N O = true ∧ ((0 ≤ s ∧ s < N.length) ∧ wordB (N.getD 0 []).length w = true) ∧ t = leadG N s w ∧ out = outsG N O s w := by
 rcases h with ⟨_, h, _⟩ | ⟨_, _, h, _⟩ | ⟨h1, h2, _, h3, h4⟩
 ·omega
 ·omega
 ·exact ⟨h1, h2, h3, h4⟩
theorem RunMR.ok {N O : List (List Int)} {s : Int} {w out : List Int} {t e : Int} (h : RunMR N O s w out t e) (h1 : vmB N O = true) (h2 : (0 ≤ s ∧ s < N.length) ∧ wordB (N.getD 0 []).length w = true) : e = 0 ∧ t = leadG N s w ∧ out = outsG N O s w := by
 rcases h with ⟨h, _⟩ | ⟨_, h, _⟩ | ⟨_, _, h⟩
 ·rw [h1] at h; cases h
 ·exact absurd h2 h
 ·exact h
def c28 : VCfg := ⟨⟨[], [], [], [0, 1, 2, 3, 6, 7, 8, 9, 10, 11, 15]⟩, [], [], []⟩
set_option maxRecDepth 100000 in
theorem f28 (N O : List (List Int)) (z z' y : Bool) (s : Int) (w : List Int) (hl : N.length ≤ 4611686018427387904) (hl2 : ∀ r ∈ N, r.length ≤ 4611686018427387904) (ho : O.length ≤ 4611686018427387904) (ho2 : ∀ r ∈ O, r.length ≤ 4611686018427387904) (hw : w.length ≤ 4611686018427387904) :
  ACall Try.prog 28 [.agg [.pay (.rows (N)) (z), .pay (.rows (O)) (z')], .int .i64 s, .pay (.ints .i64 w) y] (fun r objs => ∃ out t e, RunMR N O s w out t e ∧ r = .tup [.pay (.ints .i64 out) true, .int .i64 t, .int .i64 e] ∧ objs = []) := by
 refine acall_intro (tyP_ok _) c28 2000 [.tmp 6, .tmp 7, .tmp 8] Try.func28 rfl (by rfl) rfl (by kernel_rfl) ?_
 unfold Try.f28
 simp -implicitDefEqProofs (maxSteps := 4000000) (disch := omega) only [push_cast, c28, Nat.reduceAdd, Nat.reduceSub, Nat.reduceMul, Nat.reduceBEq, Int.reduceToNat, Int.reduceNeg, Int.reduceLE, Int.reduceLT, Int.reduceBEq, Int.reduceBNe, Int.reduceEq, eq_self, reduceCtorEq]
 refine callW_eq _ _ (f50 N O z z' hl hl2 ho ho2) ?_
 simp -implicitDefEqProofs (maxSteps := 4000000) (disch := omega) only [push_cast, c28, Nat.reduceAdd, Nat.reduceSub, Nat.reduceMul, Nat.reduceBEq, Int.reduceToNat, Int.reduceNeg, Int.reduceLE, Int.reduceLT, Int.reduceBEq, Int.reduceBNe, Int.reduceEq, eq_self, reduceCtorEq]
 refine ⟨fun hv => ⟨_, _, _, .inl ⟨hv, rfl, rfl, rfl⟩, rfl, rfl, rfl⟩, fun hv => ?_⟩
 have hV := vmB_iff.1 hv
 have hn0 := hV.v.n1
 refine callW_eq _ _ (f63 N O z z') ?_
 simp -implicitDefEqProofs (maxSteps := 4000000) (disch := omega) only [push_cast, c28, Nat.reduceAdd, Nat.reduceSub, Nat.reduceMul, Nat.reduceBEq, Int.reduceToNat, Int.reduceNeg, Int.reduceLE, Int.reduceLT, Int.reduceBEq, Int.reduceBNe, Int.reduceEq, eq_self, reduceCtorEq]
 refine callW_eq _ _ (f62 N z s) ?_
 simp -implicitDefEqProofs (maxSteps := 4000000) (disch := omega) only [push_cast, c28, Nat.reduceAdd, Nat.reduceSub, Nat.reduceMul, Nat.reduceBEq, Int.reduceToNat, Int.reduceNeg, Int.reduceLE, Int.reduceLT, Int.reduceBEq, Int.reduceBNe, Int.reduceEq, eq_self, reduceCtorEq]
 refine ⟨fun hs => ⟨_, _, _, .inr (.inl ⟨hv, fun h => hs h.1, rfl, rfl, rfl⟩), rfl, rfl, rfl⟩, fun hs => ?_⟩
 refine callW_eq _ _ (f63 N O z z') ?_
 simp -implicitDefEqProofs (maxSteps := 4000000) (disch := omega) only [push_cast, c28, Nat.reduceAdd, Nat.reduceSub, Nat.reduceMul, Nat.reduceBEq, Int.reduceToNat, Int.reduceNeg, Int.reduceLE, Int.reduceLT, Int.reduceBEq, Int.reduceBNe, Int.reduceEq, eq_self, reduceCtorEq]
 refine callW_eq _ _ (f64 N z y w (by omega) hw) ?_
 simp -implicitDefEqProofs (maxSteps := 4000000) (disch := omega) only [push_cast, c28, Nat.reduceAdd, Nat.reduceSub, Nat.reduceMul, Nat.reduceBEq, Int.reduceToNat, Int.reduceNeg, Int.reduceLE, Int.reduceLT, Int.reduceBEq, Int.reduceBNe, Int.reduceEq, eq_self, reduceCtorEq]
 refine ⟨fun hb => ⟨_, _, _, .inr (.inl ⟨hv, fun h => (by rw [h.2] at hb; cases hb), rfl, rfl, rfl⟩), rfl, rfl, rfl⟩, fun hb => ?_⟩
 have hW := wordB_iff.1 hb
 refine callW_eq _ _ (f65 N O z z' y s w _ hV hs hW.2 (by omega)) ?_
 simp -implicitDefEqProofs (maxSteps := 4000000) (disch := omega) only [push_cast, c28, Nat.reduceAdd, Nat.reduceSub, Nat.reduceMul, Nat.reduceBEq, Int.reduceToNat, Int.reduceNeg, Int.reduceLE, Int.reduceLT, Int.reduceBEq, Int.reduceBNe, Int.reduceEq, eq_self, reduceCtorEq]
 exact ⟨_, _, _, .inr (.inr ⟨hv, ⟨hs, hb⟩, rfl, rfl, rfl⟩), rfl, rfl, rfl⟩
end Go.AM
end

section
namespace Go.AM
open Go Go.Proofs
end Go.AM
end

section
namespace Go.AM
open Go Go.Proofs
def c124 : VCfg := ⟨⟨[], [], [], [0, 1, 4, 5, 7, 8, 9, 16]⟩, [], [], []⟩
theorem f124 (l : List Int) (z : Bool) (x : Int) (hl : l.length ≤ 4611686018427387904) (i0 : Nat) (h0 : i0 < l.length) (h1 : l.getD i0 0 = x) (h2 : ∀ t, t < i0 → l.getD t 0 ≠ x) : ACall Try.prog 124 [.pay (.ints .i64 l) z, .int .i64 x] (fun r objs => r = .int .i64 i0 ∧ objs = []) := by
 refine acall_intro (tyP_ok _) c124 2000 [.tmp 4] Try.func124 rfl (by rfl) rfl (by kernel_rfl) ?_
 unfold Try.f124
 simp -implicitDefEqProofs (maxSteps := 4000000) (disch := omega) only [push_cast, c124, Nat.reduceAdd, Nat.reduceSub, Nat.reduceMul, Nat.reduceBEq, Int.reduceToNat, Int.reduceNeg, Int.reduceLE, Int.reduceLT, Int.reduceBEq, Int.reduceBNe, Int.reduceEq, eq_self, reduceCtorEq]
 refine awp_upto (tyP_ok _) c124 2000 [0, 1, 4, 7, 8] (l.length) (fun i => i ≤ i0) (fun i => ⟨19, [(0, .pay (.ints .i64 l) z), (1, .int .i64 x), (4, .int .i64 0), (7, .int .i64 l.length), (8, .int .i64 i)], []⟩) (by kernel_rfl) ?_ ?_ ?_
 ·simp -implicitDefEqProofs (maxSteps := 4000000) (disch := omega) only [push_cast, c124, Nat.reduceAdd, Nat.reduceSub, Nat.reduceMul, Nat.reduceBEq, Int.reduceToNat, Int.reduceNeg, Int.reduceLE, Int.reduceLT, Int.reduceBEq, Int.reduceBNe, Int.reduceEq, eq_self, reduceCtorEq]
 ·exact Nat.zero_le _
 intro i hi hr
 simp -implicitDefEqProofs (maxSteps := 4000000) (disch := omega) only [push_cast, c124, Nat.reduceAdd, Nat.reduceSub, Nat.reduceMul, Nat.reduceBEq, Int.reduceToNat, Int.reduceNeg, Int.reduceLE, Int.reduceLT, Int.reduceBEq, Int.reduceBNe, Int.reduceEq, eq_self, reduceCtorEq]
 refine ⟨fun hlt => ⟨hlt, fun he => ?_, fun hne => ?_⟩, fun hge => ?_⟩
 ·rcases Nat.lt_or_eq_of_le hr with h | h
  ·exact absurd he.symm (h2 i h)
  ·rw [h]
 ·refine ⟨hlt, ?_⟩
  rcases Nat.lt_or_eq_of_le hr with h | h
  ·exact h
  ·subst h; exact absurd h1.symm hne
 ·omega
end Go.AM
end

section
namespace Go.AM
open Go Go.Proofs
def c57 : VCfg := ⟨⟨[], [], [], [0, 2, 3, 4, 8]⟩, [], [], []⟩
set_option maxRecDepth 100000 in
theorem f57 (l : List Int) (z : Bool) (m : Nat) (hl : l.length ≤ 4611686018427387904) (hm : m ≤ 4611686018427387904) (h1 : ∀ i, i < l.length → 0 ≤ l.getD i 0 ∧ l.getD i 0 < m) (h2 : 0 < m → ∃ i, i < l.length ∧ l.getD i 0 = m - 1) : ACall Try.prog 57 [.pay (.ints .i64 l) z] (fun r objs => r = .int .i64 m ∧ objs = []) := by
 refine acall_intro (tyP_ok _) c57 2000 [.tmp 2] Try.func57 rfl (by rfl) rfl (by kernel_rfl) ?_
 unfold Try.f57
 simp -implicitDefEqProofs (maxSteps := 4000000) (disch := omega) only [push_cast, c57, Nat.reduceAdd, Nat.reduceSub, Nat.reduceMul, Nat.reduceBEq, Int.reduceToNat, Int.reduceNeg, Int.reduceLE, Int.reduceLT, Int.reduceBEq, Int.reduceBNe, Int.reduceEq, eq_self, reduceCtorEq]
 refine awp_loop (tyP_ok _) c57 2000 [0, 2, 3, 4] (fun n g st => ∃ (i : Nat) (v : Int), g = (false, 0) ∧ i ≤ l.length ∧ 0 ≤ v ∧ v ≤ m ∧ (∀ j, j < i → l.getD j 0 < v) ∧ n = l.length - i ∧ st = ⟨19, [(0, .pay (.ints .i64 l) z), (2, .int .i64 0), (3, .int .i64 v), (4, .int .i64 i)], []⟩) l.length (by kernel_rfl) ?_ ?_
 ·exact ⟨0, 0, rfl, Nat.zero_le _, by omega, by omega, fun j hj => by omega, rfl, rfl⟩
 rintro n g st ⟨i, v, rfl, hi, h0, hv, hlt, rfl, rfl⟩
 simp -implicitDefEqProofs (maxSteps := 4000000) (disch := omega) only [push_cast, c57, Nat.reduceAdd, Nat.reduceSub, Nat.reduceMul, Nat.reduceBEq, Int.reduceToNat, Int.reduceNeg, Int.reduceLE, Int.reduceLT, Int.reduceBEq, Int.reduceBNe, Int.reduceEq, eq_self, reduceCtorEq]
 refine ⟨fun hil => ⟨hil, ?_⟩, fun hge => ?_⟩
 ·have := h1 i hil
  rw [wrap_in (by omega)]
  refine ⟨l.length - (i + 1), by omega, i + 1, max v (l.getD i 0 + 1), by omega, by omega, by omega, fun j hj => ?_, rfl, rfl, by omega⟩
  rcases Nat.lt_succ_iff_lt_or_eq.1 hj with hj | rfl
  ·have := hlt j hj; omega
  ·omega
 ·by_cases hm0 : m = 0
  ·omega
  ·obtain ⟨j, h3, h4⟩ := h2 (by omega)
   have := hlt j (by omega)
   omega
end Go.AM
end

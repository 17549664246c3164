/-
  Contracts of Cover and Tellers on both sides, and of the reference's once; conditions in each statement.
-/
import Derived.Test.YtdfocobojkmenaaS4
import Derived.Test.YtdfocobojkmenaaP3
set_option linter.unusedVariables false
set_option linter.unusedSimpArgs false
set_option linter.unusedSectionVars false
set_option linter.unnecessarySimpa false

/-! text Uk16 -/
section
namespace Go.AM
open Go Go.Proofs Go.Sort
namespace Cl
/- slices.Clone[[]int,int] -/
def c68 : VCfg := ⟨⟨[], [4], [2], [0, 2, 4]⟩, [], [], []⟩
theorem f68 (l : List Int) (z : Bool) (hl : l.length ≤ 140737488355) : ACall Try.prog 68 [.pay (.ints .i64 l) z] (fun r objs => r = .own 0 ∧ ∃ nz, objs = [.arr (.ints .i64 l) ⟨3, nz⟩]) := by
  refine acall_intro (tyP_ok _) c68 2000 [.tmp 2] Try.func68 rfl (by rfl) rfl (by kernel_rfl) ?_
  unfold Try.f68
  simp (config := {implicitDefEqProofs := false, maxSteps := 4000000}) (disch := omega) only [push_cast, c68, Nat.reduceAdd, Nat.reduceSub, Nat.reduceMul, Nat.reduceBEq, Int.reduceToNat, Int.reduceNeg, Int.reduceLE, Int.reduceLT, Int.reduceBEq, Int.reduceBNe, Int.reduceEq, Bool.not_true, Bool.not_false, eq_self, reduceCtorEq]
  exact fun b hb => ⟨fun h => ⟨true, (List.eq_nil_of_length_eq_zero (hb (Nat.eq_of_beq_eq_true h))).symm, rfl⟩, fun _ => ⟨by omega, _, rfl⟩⟩
end Cl
/- mizmaze/check.cover -/
def c69 : VCfg := ⟨⟨[], [], [], [0, 1, 2, 3, 4, 5, 6, 7, 8, 9, 10, 25, 36, 37, 38, 39, 47]⟩, [(17, (.op 0 .loose (.op 1 .loose (.op 2 .loose (.op 3 .loose (.op 4 .loose (.op 5 .loose (.op 6 .loose (.op 7 .loose (.op 8 .loose .nil))))))))))], [], []⟩
set_option maxHeartbeats 8000000 in
set_option maxRecDepth 100000 in
theorem f69 (N O : List (List Int)) (z z' : Bool) (k : Nat) (hV : VM N O k) :
    ACall Try.prog 69 [.agg [.pay (.rows (N)) (z), .pay (.rows (O)) (z')]] (fun r objs => r = .tup [.pay (.rows (covL N k)) false, .bool (allC N k)] ∧ objs = []) := by
  suffices h : ACall Try.prog 69 [.agg [.pay (.rows (N)) (z), .pay (.rows (O)) (z')]] (fun r objs => r = .tup [.own 0, .bool (allC N k)] ∧ objs = [.arr (.rows (covL N k)) ⟨37, false⟩]) by
    refine h.frz ?_
    rintro r objs ⟨rfl, rfl⟩
    exact ⟨[0], _, 1, rfl, rfl, rfl⟩
  have hn1 := hV.v.n1
  have hn := hV.v.n2
  have hk2 := hV.v.k2
  have hs0 : (0 : Int) ≤ 0 ∧ (0 : Int) < N.length := ⟨Int.le_refl _, by omega⟩
  refine acall_intro (tyP_ok _) c69 2000 [.tmp 2, .tmp 3] Try.func69 rfl (by rfl) rfl (by kernel_rfl) ?_
  unfold Try.f69
  simp (config := {implicitDefEqProofs := false, maxSteps := 4000000}) (disch := omega) only [push_cast, c69, Nat.reduceAdd, Nat.reduceSub, Nat.reduceMul, Nat.reduceBEq, Int.reduceToNat, Int.reduceNeg, Int.reduceLE, Int.reduceLT, Int.reduceBEq, Int.reduceBNe, Int.reduceEq, Bool.not_true, Bool.not_false, eq_self, reduceCtorEq]
  refine ⟨by omega, by omega, ?_, ?_⟩
  · rw [List.length_replicate]; omega
  refine awp_loop (tyP_ok _) c69 2000 [1, 2, 3, 4, 5, 6, 7] (fun n g st => ∃ i : Nat, g = (false, 0) ∧ i ≤ N.length ∧ n = N.length - i ∧ st = ⟨74, [(1, .fref [.pay (.rows N) z, .pay (.rows O) z']), (2, .pay (.rows []) true), (3, .bool false), (4, .own 0), (5, .own 1), (6, .own 2), (7, .int .i64 i)], [.arr (.rows (cvO N (bfs (dlN N) 0 k i))) ⟨37, false⟩, .arr (.bools (cvM N (bfs (dlN N) 0 k i))) ⟨4, false⟩, .arr (.ints .i64 (bfs (dlN N) 0 k i).1) ⟨3, false⟩]⟩) N.length (by kernel_rfl) ?_ ?_
  · have e1 : cvO N (bfs (dlN N) 0 k 0) = List.replicate N.length [] := cvO_zero
    have e2 : cvM N (bfs (dlN N) 0 k 0) = (List.replicate N.length false).set 0 true := cvM_zero
    simp (config := {implicitDefEqProofs := false, maxSteps := 4000000}) (disch := omega) only [push_cast, c69, Nat.reduceAdd, Nat.reduceSub, Nat.reduceMul, Nat.reduceBEq, Int.reduceToNat, Int.reduceNeg, Int.reduceLE, Int.reduceLT, Int.reduceBEq, Int.reduceBNe, Int.reduceEq, Bool.not_true, Bool.not_false, eq_self, reduceCtorEq]
    exact ⟨0, Nat.zero_le _, by omega, rfl, e1.symm, e2.symm, rfl⟩
  rintro n g st ⟨i, rfl, hi, rfl, rfl⟩
  have hinv := bfs_inv (δ := dlN N) (s0 := 0) (k := k) i
  have hbd := state_len hV hs0 hinv
  have hin := state_in hV hs0 hinv
  generalize hq0 : bfs (dlN N) 0 k i = q0 at *
  simp (config := {implicitDefEqProofs := false, maxSteps := 4000000}) (disch := omega) only [push_cast, c69, Nat.reduceAdd, Nat.reduceSub, Nat.reduceMul, Nat.reduceBEq, Int.reduceToNat, Int.reduceNeg, Int.reduceLE, Int.reduceLT, Int.reduceBEq, Int.reduceBNe, Int.reduceEq, Bool.not_true, Bool.not_false, eq_self, reduceCtorEq]
  refine ⟨fun hlt => ⟨hlt, ?_⟩, fun hge => ?_⟩
  · have hp := hin i hlt
    refine ⟨hp, ?_⟩
    generalize hs : q0.1.getD i 0 = s at *
    have hrw := hV.v.row _ (getD_mem' (show s.toNat < N.length by omega))
    have hrl := hrw.1
    refine awp_upto (tyP_ok _) c69 2000 [1, 2, 3, 4, 5, 6, 7, 8, 36, 37, 38] (k) (fun _ => True) (fun x => ⟨74, [(1, .fref [.pay (.rows N) z, .pay (.rows O) z']), (2, .pay (.rows []) true), (3, .bool false), (4, .own 0), (5, .own 1), (6, .own 2), (7, .int .i64 i), (8, .int .i64 s), (36, .pay (.ints .i64 (N.getD s.toNat [])) false), (37, .int .i64 k), (38, .int .i64 x)], [.arr (.rows (cvO N (inn (dlN N) 0 i q0 x))) ⟨37, false⟩, .arr (.bools (cvM N (inn (dlN N) 0 i q0 x))) ⟨4, false⟩, .arr (.ints .i64 (inn (dlN N) 0 i q0 x).1) ⟨3, false⟩]⟩) (by kernel_rfl) ?_ ?_ ?_
    · simp (config := {implicitDefEqProofs := false, maxSteps := 4000000}) (disch := omega) only [push_cast, c69, hrl, Nat.reduceAdd, Nat.reduceSub, Nat.reduceMul, Nat.reduceBEq, Int.reduceToNat, Int.reduceNeg, Int.reduceLE, Int.reduceLT, Int.reduceBEq, Int.reduceBNe, Int.reduceEq, Bool.not_true, Bool.not_false, eq_self, reduceCtorEq]
      exact ⟨rfl, rfl, rfl⟩
    · trivial
    intro x hx _
    obtain ⟨hinv2, hle2⟩ := inn_inv hinv hlt x hx
    have hlen2 := state_len hV hs0 hinv2
    have hM : (cvM N (inn (dlN N) 0 i q0 x)).length = N.length := cvM_len
    have hO : (cvO N (inn (dlN N) 0 i q0 x)).length = N.length := cvO_len
    simp (config := {implicitDefEqProofs := false, maxSteps := 4000000}) (disch := omega) only [push_cast, c69, hrl, hM, hO, Nat.reduceAdd, Nat.reduceSub, Nat.reduceMul, Nat.reduceBEq, Int.reduceToNat, Int.reduceNeg, Int.reduceLE, Int.reduceLT, Int.reduceBEq, Int.reduceBNe, Int.reduceEq, Bool.not_true, Bool.not_false, eq_self, reduceCtorEq]
    have hpx : (inn (dlN N) 0 i q0 x).1.getD i 0 = s := by
      rw [(inn_more (i := i) hinv.len x).1.l1 i hlt, hs]
    have hstep : inn (dlN N) 0 i q0 (x + 1) = if nxG N s x ∈ (inn (dlN N) 0 i q0 x).1 then inn (dlN N) 0 i q0 x else ((inn (dlN N) 0 i q0 x).1 ++ [nxG N s x], (inn (dlN N) 0 i q0 x).2 ++ [((i : Int), (x : Int))]) := by
      rw [inn, hpx]; rfl
    have hdl : nxG N s x = (N.getD s.toNat []).getD x 0 := by simp [nxG]
    refine ⟨fun hxk => ?_, fun hxk => ?_⟩
    · have htb := hrw.2 _ (getD_mem (show x < (N.getD s.toNat []).length by omega))
      rw [← hdl] at htb ⊢
      generalize ht : nxG N s x = t at *
      rw [cvM_get htb]
      refine ⟨hxk, htb, fun hn0 => ?_, fun ho => ?_⟩
      · have hnm : t ∉ (inn (dlN N) 0 i q0 x).1 := by simpa using hn0
        refine ⟨htb, hp, ?_⟩
        have hlt2 : i < (inn (dlN N) 0 i q0 x).1.length := by omega
        have hw : (cvO N (inn (dlN N) 0 i q0 x)).getD s.toNat [] = wordOf (inn (dlN N) 0 i q0 x).2 i := by
          rw [cvO_get hp, ← hpx]; exact cvW_at hinv2 hlt2
        have hwl := word_len hV hinv2 i hlt2
        rw [hw]
        refine callW_rel (Cl.f68 _ _ (by omega)) ?_
        rintro R O' ⟨rfl, nz, rfl⟩
        simp (config := {implicitDefEqProofs := false, maxSteps := 4000000}) (disch := omega) only [push_cast, c69, hrl, hM, hO, Nat.reduceAdd, Nat.reduceSub, Nat.reduceMul, Nat.reduceBEq, Int.reduceToNat, Int.reduceNeg, Int.reduceLE, Int.reduceLT, Int.reduceBEq, Int.reduceBNe, Int.reduceEq, Bool.not_true, Bool.not_false, eq_self, reduceCtorEq]
        rw [hstep, if_neg hnm, cvO_new hV hinv2 hlt2 hxk htb hnm, cvM_new htb]
        exact ⟨by omega, htb, by omega, hxk, rfl, rfl, rfl⟩
      · have hm : t ∈ (inn (dlN N) 0 i q0 x).1 := by simpa using ho
        rw [hstep, if_pos hm]
        exact ⟨hxk, rfl, rfl, rfl⟩
    · have hxc : x = k := by omega
      subst hxc
      have hb2 : inn (dlN N) 0 i q0 x = bfs (dlN N) 0 x (i + 1) := by
        rw [bfs, hq0, if_pos hlt]
      exact ⟨N.length - (i + 1), by omega, i + 1, by omega, rfl, by omega, by rw [hb2], by rw [hb2], by rw [hb2]⟩
  · have hfin : finN N k 0 = q0 := by
      have := bfs_stop (δ := dlN N) (s0 := 0) (k := k) (i := i) (by rw [hq0]; omega) (N.length - i)
      rw [show i + (N.length - i) = N.length by omega, hq0] at this
      exact this
    refine ⟨?_, by rw [covL, hfin]⟩
    rw [allC, hfin]
    rw [Bool.eq_iff_iff]
    simp only [beq_iff_eq, decide_eq_true_eq]
    omega
/- mizmaze/mealy.Least -/
def c70 : VCfg := ⟨⟨[], [], [], [0, 1, 2, 4]⟩, [], [], []⟩
theorem f70 (N O : List (List Int)) (z z' : Bool) (k : Nat) (hV : VM N O k) : ACall Try.prog 70 [.agg [.pay (.rows (N)) (z), .pay (.rows (O)) (z')]] (fun r objs => r = .bool (decide (cntT N O k = N.length)) ∧ objs = []) := by
  refine acall_intro (tyP_ok _) c70 2000 [.tmp 2] Try.func70 rfl (by rfl) rfl (by kernel_rfl) ?_
  unfold Try.f70
  simp (config := {implicitDefEqProofs := false, maxSteps := 4000000}) (disch := omega) only [push_cast, c70, Nat.reduceAdd, Nat.reduceSub, Nat.reduceMul, Nat.reduceBEq, Int.reduceToNat, Int.reduceNeg, Int.reduceLE, Int.reduceLT, Int.reduceBEq, Int.reduceBNe, Int.reduceEq, Bool.not_true, Bool.not_false, eq_self, reduceCtorEq]
  refine callW_eq _ _ (f66 N O z z' k hV) ?_
  simp (config := {implicitDefEqProofs := false, maxSteps := 4000000}) (disch := omega) only [push_cast, c70, Nat.reduceAdd, Nat.reduceSub, Nat.reduceMul, Nat.reduceBEq, Int.reduceToNat, Int.reduceNeg, Int.reduceLE, Int.reduceLT, Int.reduceBEq, Int.reduceBNe, Int.reduceEq, Bool.not_true, Bool.not_false, eq_self, reduceCtorEq]
  rw [Bool.eq_iff_iff]
  simp only [beq_iff_eq, decide_eq_true_eq]
  omega
/-- what the machine must be: minimal, all its states reached -/
def fitB (N O : List (List Int)) : Bool := allC N (N.getD 0 []).length && decide (cntT N O (N.getD 0 []).length = N.length)
def AskR (N O : List (List Int)) (l : List (List Int)) (e : Int) : Prop := (vmB N O = false ∧ e = 1 ∧ l = []) ∨ (vmB N O = true ∧ fitB N O = false ∧ e = 2 ∧ l = []) ∨ (vmB N O = true ∧ fitB N O = true ∧ e = 0 ∧ l = covL N (N.getD 0 []).length)
/- mizmaze/check.asks -/
def c45 : VCfg := ⟨⟨[], [], [], [0, 1, 2, 3, 4, 5, 8, 20]⟩, [], [], []⟩
theorem f45 (N O : List (List Int)) (z z' : Bool) (hl : N.length ≤ 4611686018427387904) (hl2 : ∀ r ∈ N, r.length ≤ 4611686018427387904) (ho : O.length ≤ 4611686018427387904) (ho2 : ∀ r ∈ O, r.length ≤ 4611686018427387904) :
    ACall Try.prog 45 [.agg [.pay (.rows (N)) (z), .pay (.rows (O)) (z')]] (fun r objs => ∃ l e nz, AskR N O l e ∧ r = .tup [.pay (.rows l) nz, .int .i64 e] ∧ objs = []) := by
  refine acall_intro (tyP_ok _) c45 2000 [.tmp 2, .tmp 3] Try.func45 rfl (by rfl) rfl (by kernel_rfl) ?_
  unfold Try.f45
  simp (config := {implicitDefEqProofs := false, maxSteps := 4000000}) (disch := omega) only [push_cast, c45, Nat.reduceAdd, Nat.reduceSub, Nat.reduceMul, Nat.reduceBEq, Int.reduceToNat, Int.reduceNeg, Int.reduceLE, Int.reduceLT, Int.reduceBEq, Int.reduceBNe, Int.reduceEq, Bool.not_true, Bool.not_false, eq_self, reduceCtorEq]
  refine callW_eq _ _ (f55 N O z z' hl hl2 ho ho2) ?_
  simp (config := {implicitDefEqProofs := false, maxSteps := 4000000}) (disch := omega) only [push_cast, c45, Nat.reduceAdd, Nat.reduceSub, Nat.reduceMul, Nat.reduceBEq, Int.reduceToNat, Int.reduceNeg, Int.reduceLE, Int.reduceLT, Int.reduceBEq, Int.reduceBNe, Int.reduceEq, Bool.not_true, Bool.not_false, eq_self, reduceCtorEq]
  refine ⟨fun hv => ⟨_, _, _, .inl ⟨hv, rfl, rfl⟩, ⟨rfl, rfl⟩, rfl⟩, fun hv => ?_⟩
  refine callW_eq _ _ (f69 N O z z' _ (vmB_iff.1 hv)) ?_
  simp (config := {implicitDefEqProofs := false, maxSteps := 4000000}) (disch := omega) only [push_cast, c45, Nat.reduceAdd, Nat.reduceSub, Nat.reduceMul, Nat.reduceBEq, Int.reduceToNat, Int.reduceNeg, Int.reduceLE, Int.reduceLT, Int.reduceBEq, Int.reduceBNe, Int.reduceEq, Bool.not_true, Bool.not_false, eq_self, reduceCtorEq]
  refine ⟨fun ha => ?_, fun ha => ?_⟩
  · exact ⟨_, _, _, .inr (.inl ⟨hv, by simp only [fitB, ha, Bool.false_and], rfl, rfl⟩), ⟨rfl, rfl⟩, rfl⟩
  · refine callW_eq _ _ (f70 N O z z' _ (vmB_iff.1 hv)) ?_
    simp (config := {implicitDefEqProofs := false, maxSteps := 4000000}) (disch := omega) only [push_cast, c45, Nat.reduceAdd, Nat.reduceSub, Nat.reduceMul, Nat.reduceBEq, Int.reduceToNat, Int.reduceNeg, Int.reduceLE, Int.reduceLT, Int.reduceBEq, Int.reduceBNe, Int.reduceEq, Bool.not_true, Bool.not_false, eq_self, reduceCtorEq]
    refine ⟨fun hc => ?_, fun hc => ?_⟩
    · exact ⟨_, _, _, .inr (.inl ⟨hv, by simp only [fitB, hc, decide_false, Bool.and_false], rfl, rfl⟩), ⟨rfl, rfl⟩, rfl⟩
    · exact ⟨_, _, _, .inr (.inr ⟨hv, by simp only [fitB, ha, hc, decide_true, Bool.and_true], rfl, rfl⟩), ⟨rfl, rfl⟩, rfl⟩
/- mizmaze/check.Cover -/
end Go.AM
end

/-! text Uk17 -/
section
namespace Go.AM
open Go Go.Proofs Go.Sort
/-- a merge under way -/
structure Mrg (l a b o : List (List Int)) : Prop where
  sa : SS (o ++ a)
  sb : SS (o ++ b)
  mem : ∀ x, x ∈ l ↔ x ∈ o ∨ x ∈ a ∨ x ∈ b
theorem Mrg.same {l a b o : List (List Int)} {x : List Int} (h : Mrg l (x :: a) (x :: b) o) : Mrg l a (x :: b) o := by
  refine ⟨?_, h.sb, fun y => ?_⟩
  · have h1 := List.pairwise_append.1 h.sa
    exact List.pairwise_append.2 ⟨h1.1, (List.pairwise_cons.1 h1.2.1).2, fun u hu v hv => h1.2.2 u hu v (by simp [hv])⟩
  · rw [h.mem y]
    simp only [List.mem_cons]
    constructor
    · rintro (h | (h | h) | h | h) <;> simp [h]
    · rintro (h | h | h | h) <;> simp [h]
theorem Mrg.done {l o : List (List Int)} (h : Mrg l [] [] o) : o = onceL l := onceL_eq (by simpa using h.sa) fun x => by rw [h.mem x]; simp
/- mizmaze/mizmazeref09.once -/
end Go.AM
end

/-! text Uk18 -/
section
namespace Go.AM
open Go Go.Proofs Go.Sort
/- mizmaze/check.tellers -/
def c46 : VCfg := ⟨⟨[], [], [3], [0, 1, 2, 3, 4, 5, 6, 11, 16, 17, 18, 20, 21, 22]⟩, [], [71], [39]⟩
set_option maxHeartbeats 8000000 in
set_option maxRecDepth 100000 in
theorem f46 (N O : List (List Int)) (z z' : Bool) (k : Nat) (hV : VM N O k) :
    ACall Try.prog 46 [.agg [.pay (.rows (N)) (z), .pay (.rows (O)) (z')]] (fun r objs => ∃ nz, r = .pay (.rows (telL N O k)) nz ∧ objs = []) := by
  suffices h : ACall Try.prog 46 [.agg [.pay (.rows (N)) (z), .pay (.rows (O)) (z')]] (fun r objs => (r = .own 0 ∧ ∃ o, objs = [.arr (.rows (telL N O k)) o] ++ [] ) ∨ (∃ nz, r = .pay (.rows (telL N O k)) nz ∧ objs = [])) by
    refine h.frz ?_
    rintro r objs (⟨rfl, o, rfl⟩ | ⟨nz, rfl, rfl⟩)
    · exact ⟨[0], _, 1, rfl, _, rfl, rfl⟩
    · exact ⟨[], _, 0, rfl, _, rfl, rfl⟩
  have hn1 := hV.v.n1
  have hn := hV.v.n2
  refine acall_intro (tyP_ok _) c46 2000 [.tmp 2] Try.func46 rfl (by rfl) rfl (by kernel_rfl) ?_
  unfold Try.f46
  simp (config := {implicitDefEqProofs := false, maxSteps := 4000000}) (disch := omega) only [push_cast, c46, Nat.reduceAdd, Nat.reduceSub, Nat.reduceMul, Nat.reduceBEq, Int.reduceToNat, Int.reduceNeg, Int.reduceLE, Int.reduceLT, Int.reduceBEq, Int.reduceBNe, Int.reduceEq, Bool.not_true, Bool.not_false, eq_self, reduceCtorEq]
  refine ⟨fun h1 => ?_, fun h1 => ?_⟩
  · exact .inl ⟨_, by rw [telL, if_pos (by omega)], rfl⟩
  refine awp_upto (tyP_ok _) c46 2000 [1, 2, 3, 16, 17] (N.length) (fun _ => True) (fun y => ⟨40, [(1, .fref [.pay (.rows N) z, .pay (.rows O) z']), (2, .pay (.rows []) true), (3, .own 0), (16, .int .i64 N.length), (17, .int .i64 y)], [.arr (.rows (tws N O k (prs y 0))) ⟨37, true⟩]⟩) (by kernel_rfl) ?_ ?_ ?_
  · simp (config := {implicitDefEqProofs := false, maxSteps := 4000000}) (disch := omega) only [push_cast, c46, Nat.reduceAdd, Nat.reduceSub, Nat.reduceMul, Nat.reduceBEq, Int.reduceToNat, Int.reduceNeg, Int.reduceLE, Int.reduceLT, Int.reduceBEq, Int.reduceBNe, Int.reduceEq, Bool.not_true, Bool.not_false, eq_self, reduceCtorEq]
    rfl
  · trivial
  intro y hy _
  simp (config := {implicitDefEqProofs := false, maxSteps := 4000000}) (disch := omega) only [push_cast, c46, Nat.reduceAdd, Nat.reduceSub, Nat.reduceMul, Nat.reduceBEq, Int.reduceToNat, Int.reduceNeg, Int.reduceLE, Int.reduceLT, Int.reduceBEq, Int.reduceBNe, Int.reduceEq, Bool.not_true, Bool.not_false, eq_self, reduceCtorEq]
  refine ⟨fun hlt => ?_, fun hge => ?_⟩
  · refine awp_upto (tyP_ok _) c46 2000 [1, 2, 3, 4, 16, 17, 20, 21] (y) (fun _ => True) (fun x => ⟨40, [(1, .fref [.pay (.rows N) z, .pay (.rows O) z']), (2, .pay (.rows []) true), (3, .own 0), (4, .int .i64 y), (16, .int .i64 N.length), (17, .int .i64 y), (20, .int .i64 y), (21, .int .i64 x)], [.arr (.rows (tws N O k (prs y x))) ⟨37, true⟩]⟩) (by kernel_rfl) ?_ ?_ ?_
    · simp (config := {implicitDefEqProofs := false, maxSteps := 4000000}) (disch := omega) only [push_cast, c46, Nat.reduceAdd, Nat.reduceSub, Nat.reduceMul, Nat.reduceBEq, Int.reduceToNat, Int.reduceNeg, Int.reduceLE, Int.reduceLT, Int.reduceBEq, Int.reduceBNe, Int.reduceEq, Bool.not_true, Bool.not_false, eq_self, reduceCtorEq]
    · trivial
    intro x hx _
    have hpl := prs_len y x (by omega) (by omega)
    have htl : (tws N O k (prs y x)).length = (prs y x).length := tws_len
    simp (config := {implicitDefEqProofs := false, maxSteps := 4000000}) (disch := omega) only [push_cast, c46, Nat.reduceAdd, Nat.reduceSub, Nat.reduceMul, Nat.reduceBEq, Int.reduceToNat, Int.reduceNeg, Int.reduceLE, Int.reduceLT, Int.reduceBEq, Int.reduceBNe, Int.reduceEq, Bool.not_true, Bool.not_false, eq_self, reduceCtorEq]
    refine ⟨fun hxy => ?_, fun hxy => ?_⟩
    · refine callW_rel (f65 N O N O z z' z z' _ _ k hV hV ⟨by omega, by omega⟩ ⟨by omega, by omega⟩) ?_
      rintro R O' ⟨w, ok, nz, hw, rfl, rfl⟩
      have hwe := tellW_eq hw
      simp (config := {implicitDefEqProofs := false, maxSteps := 4000000}) (disch := omega) only [push_cast, c46, Nat.reduceAdd, Nat.reduceSub, Nat.reduceMul, Nat.reduceBEq, Int.reduceToNat, Int.reduceNeg, Int.reduceLE, Int.reduceLT, Int.reduceBEq, Int.reduceBNe, Int.reduceEq, Bool.not_true, Bool.not_false, eq_self, reduceCtorEq]
      rw [prs_x, tws_snoc, hwe]
      exact ⟨by omega, hxy, rfl⟩
    · have : x = y := by omega
      subst this
      exact ⟨hlt, by rw [prs_y]⟩
  · have : y = N.length := by omega
    subst this
    have hpl := prs_len N.length 0 (by omega) (by omega)
    refine lcallW_rel (g71 _ _ _ _ (by rw [tws_len]; omega) (fun r hr => by have := tws_sm hV (Nat.le_refl _) (Nat.zero_le _) (.inl rfl) r hr; omega)) ?_
    rintro g1 R A O' ⟨rfl, ⟨nz, rfl⟩, rfl, rfl⟩
    simp (config := {implicitDefEqProofs := false, maxSteps := 4000000}) (disch := omega) only [push_cast, c46, Nat.reduceAdd, Nat.reduceSub, Nat.reduceMul, Nat.reduceBEq, Int.reduceToNat, Int.reduceNeg, Int.reduceLE, Int.reduceLT, Int.reduceBEq, Int.reduceBNe, Int.reduceEq, Bool.not_true, Bool.not_false, eq_self, reduceCtorEq]
    exact .inr ⟨_, by rw [telL, if_neg (by omega)], rfl⟩
theorem AskR.uniq {N O l l' : List (List Int)} {e e' : Int} (h : AskR N O l e) (h' : AskR N O l' e') : l = l' ∧ e = e' := by
  rcases h with ⟨a, rfl, rfl⟩ | ⟨a, b, rfl, rfl⟩ | ⟨a, b, rfl, rfl⟩ <;> rcases h' with ⟨c, rfl, rfl⟩ | ⟨c, d, rfl, rfl⟩ | ⟨c, d, rfl, rfl⟩ <;> first | exact ⟨rfl, rfl⟩ | (rw [a] at c; cases c; done) | (rw [b] at d; cases d; done)
/- mizmaze/check.Tellers -/
/- mizmaze/mizmazeref09.Tellers -/
/- mizmaze/mizmazeref08.IsMinimal -/
def c48 : VCfg := ⟨⟨[], [], [], [0, 1, 2]⟩, [(1, (.op 0 .loose (.op 3 .loose (.op 4 .loose (.op 5 .loose (.op 1 .eff (.op 2 .eff (.op 6 .loose (.op 7 .loose .nil)))))))))], [], []⟩
theorem f48 (N O : List (List Int)) (z z' : Bool) (k : Nat) (hV : VM N O k) : ACall Try.prog 48 [.agg [.pay (.rows (N)) (z), .pay (.rows (O)) (z')]] (fun r objs => r = .bool (decide (cntT N O k = N.length)) ∧ objs = []) := by
  refine acall_intro (tyP_ok _) c48 2000 [.tmp 2] Try.func48 rfl (by rfl) rfl (by kernel_rfl) ?_
  unfold Try.f48
  simp (config := {implicitDefEqProofs := false, maxSteps := 4000000}) (disch := omega) only [push_cast, c48, Nat.reduceAdd, Nat.reduceSub, Nat.reduceMul, Nat.reduceBEq, Int.reduceToNat, Int.reduceNeg, Int.reduceLE, Int.reduceLT, Int.reduceBEq, Int.reduceBNe, Int.reduceEq, Bool.not_true, Bool.not_false, eq_self, reduceCtorEq]
  refine callW_eq _ _ (f73 N O z z' k hV) ?_
  simp (config := {implicitDefEqProofs := false, maxSteps := 4000000}) (disch := omega) only [push_cast, c48, Nat.reduceAdd, Nat.reduceSub, Nat.reduceMul, Nat.reduceBEq, Int.reduceToNat, Int.reduceNeg, Int.reduceLE, Int.reduceLT, Int.reduceBEq, Int.reduceBNe, Int.reduceEq, Bool.not_true, Bool.not_false, eq_self, reduceCtorEq]
  have hl : (clsT N O k).length = N.length := clsT_len
  have hn1 := hV.v.n1
  have hn := hV.v.n2
  have hc : cntT N O k ≤ N.length := cntI_le _
  refine callW_eq _ _ (f72 (clsT N O k) _ (cntT N O k) (by omega) (by omega) (fun i hi => cls_rng (by omega)) (fun _ => ⟨repC N O k (cntT N O k - 1), by have := (repC_ok (N := N) (O := O) (k := k) (c := cntT N O k - 1) (by omega)).1; omega, by have := (repC_ok (N := N) (O := O) (k := k) (c := cntT N O k - 1) (by omega)).2.2.2; unfold atC at this; omega⟩)) ?_
  simp (config := {implicitDefEqProofs := false, maxSteps := 4000000}) (disch := omega) only [push_cast, c48, Nat.reduceAdd, Nat.reduceSub, Nat.reduceMul, Nat.reduceBEq, Int.reduceToNat, Int.reduceNeg, Int.reduceLE, Int.reduceLT, Int.reduceBEq, Int.reduceBNe, Int.reduceEq, Bool.not_true, Bool.not_false, eq_self, reduceCtorEq]
  rw [Bool.eq_iff_iff]
  simp only [beq_iff_eq, decide_eq_true_eq]
  omega
/-- how many states are reached -/
theorem reach_len {N O : List (List Int)} {k : Nat} (hV : VM N O k) : (reachL N k 0).length = (finN N k 0).1.length := by
  rw [← sortL_fin hV ⟨Int.le_refl _, by have := hV.v.n1; omega⟩, sortL_len]
/- mizmaze/mizmazeref09.Fits -/
def c15 : VCfg := ⟨⟨[], [], [], [0, 1, 2]⟩, [(1, (.op 0 .loose (.op 1 .eff (.op 2 .loose (.op 3 .loose (.op 6 .loose (.op 7 .loose (.op 8 .loose (.op 4 .eff (.op 5 .loose (.op 9 .loose (.op 10 .loose (.op 11 .loose .nil)))))))))))))], [], []⟩
theorem f15 (N O : List (List Int)) (z z' : Bool) (hv : vmB N O = true) : ACall Try.prog 15 [.agg [.pay (.rows (N)) (z), .pay (.rows (O)) (z')]] (fun r objs => r = .bool (fitB N O) ∧ objs = []) := by
  have hV := vmB_iff.1 hv
  refine acall_intro (tyP_ok _) c15 2000 [.tmp 2] Try.func15 rfl (by rfl) rfl (by kernel_rfl) ?_
  unfold Try.f15
  simp (config := {implicitDefEqProofs := false, maxSteps := 4000000}) (disch := omega) only [push_cast, c15, Nat.reduceAdd, Nat.reduceSub, Nat.reduceMul, Nat.reduceBEq, Int.reduceToNat, Int.reduceNeg, Int.reduceLE, Int.reduceLT, Int.reduceBEq, Int.reduceBNe, Int.reduceEq, Bool.not_true, Bool.not_false, eq_self, reduceCtorEq]
  have hn1 := hV.v.n1
  have hr := reach_len hV
  refine callW_eq _ _ (f48 N O z z' _ hV) ?_
  simp (config := {implicitDefEqProofs := false, maxSteps := 4000000}) (disch := omega) only [push_cast, c15, Nat.reduceAdd, Nat.reduceSub, Nat.reduceMul, Nat.reduceBEq, Int.reduceToNat, Int.reduceNeg, Int.reduceLE, Int.reduceLT, Int.reduceBEq, Int.reduceBNe, Int.reduceEq, Bool.not_true, Bool.not_false, eq_self, reduceCtorEq]
  refine ⟨fun hc => ?_, fun hc => by simp only [fitB, hc, decide_false, Bool.and_false]⟩
  refine callW_rel (f49 N O z z' 0 _ hV ⟨Int.le_refl _, by omega⟩) ?_
  rintro R O' ⟨nz, rfl, rfl⟩
  simp (config := {implicitDefEqProofs := false, maxSteps := 4000000}) (disch := omega) only [push_cast, c15, Nat.reduceAdd, Nat.reduceSub, Nat.reduceMul, Nat.reduceBEq, Int.reduceToNat, Int.reduceNeg, Int.reduceLE, Int.reduceLT, Int.reduceBEq, Int.reduceBNe, Int.reduceEq, Bool.not_true, Bool.not_false, eq_self, reduceCtorEq]
  simp only [fitB, hc, decide_true, Bool.and_true, allC, hr]
  rw [Bool.eq_iff_iff]
  simp only [beq_iff_eq, decide_eq_true_eq]
  omega
end Go.AM
end

/-! text Uk19 -/
section
namespace Go.AM
open Go Go.Proofs Go.Sort
/- mizmaze/mizmazeref09.Cover -/
end Go.AM
end

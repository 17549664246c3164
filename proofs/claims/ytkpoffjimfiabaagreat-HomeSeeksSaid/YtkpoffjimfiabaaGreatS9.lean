/-
  Contracts of the reference's Apart and Seek; conditions in each statement.
-/
import Derived.Test.YtkpoffjimfiabaaGreatS3
import Derived.Test.YtkpoffjimfiabaaGreatP2
import Derived.Test.YtkpoffjimfiabaaGreatP6
set_option linter.unusedVariables false
set_option linter.unusedSimpArgs false
set_option linter.unusedSectionVars false
set_option linter.unnecessarySimpa false

section
namespace Go.AM
open Go Go.Proofs
def c31 : VCfg := ⟨⟨[], [], [], [0, 1, 2, 3, 4, 6, 8, 9, 10, 11, 12, 13, 14, 15, 16, 17, 18, 19, 45, 61, 89, 117]⟩, [(8, (.op 0 .loose (.op 1 .loose (.op 2 .loose (.op 3 .loose (.op 4 .loose (.op 5 .loose (.op 6 .loose (.op 7 .loose (.op 8 .loose (.op 9 .loose (.op 10 .loose (.op 11 .loose .nil))))))))))))), (13, (.op 0 .loose (.op 1 .loose (.op 2 .loose (.op 3 .loose (.op 4 .loose (.op 5 .loose (.op 6 .loose (.op 7 .loose (.op 8 .loose (.op 9 .loose (.op 10 .loose (.op 11 .loose (.op 12 .loose (.op 13 .loose (.op 14 .loose (.op 15 .loose (.op 16 .loose .nil)))))))))))))))))), (15, (.op 0 .loose (.op 1 .loose (.op 2 .loose (.op 3 .loose (.op 4 .loose (.op 5 .loose (.op 6 .loose (.op 7 .loose (.op 8 .loose (.op 9 .loose (.op 10 .loose (.op 11 .loose (.op 12 .loose (.op 13 .loose (.op 14 .loose (.op 15 .loose (.op 16 .loose (.op 17 .loose .nil)))))))))))))))))))], [], []⟩
def O31 (n m : Nat) (q : List (Int × Int) × Stp) : List AObj := [.arr (.gen 2 (pairL q)) ⟨89, false⟩, .arr (.rows (wordsL q)) ⟨27, false⟩, .arr (.bools (metL n m q.1)) ⟨4, false⟩]
def S31 (N O M Q : List (List Int)) (z z' y y' : Bool) (q : List (Int × Int) × Stp) (i : Nat) : St :=
 ⟨137, [(4, .fref [.pay (.rows N) z, .pay (.rows O) z']), (6, .fref [.pay (.rows M) y, .pay (.rows Q) y']), (8, .pay (.ints .i64 []) true), (9, .bool false), (10, .own 0), (11, .own 1), (12, .own 2), (13, .int .i64 i)], O31 N.length M.length q⟩
def R31 (N O M Q : List (List Int)) (z z' y y' : Bool) (q : List (Int × Int) × Stp) (i : Nat) (p : Int × Int) (c : Nat) : St :=
 ⟨137, [(4, .fref [.pay (.rows N) z, .pay (.rows O) z']), (6, .fref [.pay (.rows M) y, .pay (.rows Q) y']), (8, .pay (.ints .i64 []) true), (9, .bool false), (10, .own 0), (11, .own 1), (12, .own 2), (13, .int .i64 i), (14, .int .i64 p.1), (15, .int .i64 p.2), (16, .int .i64 c)], O31 N.length M.length q⟩
set_option maxHeartbeats 4000000 in
set_option maxRecDepth 100000 in
theorem f31 (N O M Q : List (List Int)) (z z' y y' : Bool) (a b : Int) (k : Nat) (hN : VM N O k) (hM : VM M Q k) (ha : 0 ≤ a ∧ a < N.length) (hb : 0 ≤ b ∧ b < M.length) :
  ACall Tryz.prog 31 [.agg [.pay (.rows (N)) (z), .pay (.rows (O)) (z')], .int .i64 a, .agg [.pay (.rows (M)) (y), .pay (.rows (Q)) (y')], .int .i64 b] (fun r objs => ∃ w ok nz, TellR N O M Q a b k w ok ∧ r = .tup [.pay (.ints .i64 w) nz, .bool ok] ∧ objs = []) := by
 suffices h : ACall Tryz.prog 31 [.agg [.pay (.rows (N)) (z), .pay (.rows (O)) (z')], .int .i64 a, .agg [.pay (.rows (M)) (y), .pay (.rows (Q)) (y')], .int .i64 b] (fun r objs => (∃ w, TellR N O M Q a b k w true ∧ r = .tup [.own 0, .bool true] ∧ objs = [.arr (.ints .i64 w) ⟨3, false⟩]) ∨ (TellR N O M Q a b k [] false ∧ r = .tup [.pay (.ints .i64 []) true, .bool false] ∧ objs = [])) by
  refine h.frz ?_
  rintro r objs (⟨w, h1, rfl, rfl⟩ | ⟨h1, rfl, rfl⟩)
  ·exact ⟨[0], _, 1, rfl, w, true, _, h1, rfl, rfl⟩
  ·exact ⟨[], _, 0, rfl, [], false, _, h1, rfl, rfl⟩
 have hn := hN.v.n2
 have hm := hM.v.n2
 have hk2 := hN.v.k2
 have hnm : N.length * M.length ≤ 3600 := Nat.mul_le_mul hn hm
 have hnmI : (N.length : Int) * (M.length : Int) = ((N.length * M.length : Nat) : Int) := by simp
 have ham := mul_60 (n := M.length) ha.1 (by omega) hm
 have hnum : (a * (M.length : Int) + b).toNat = numP M.length (a, b) := numP_int (n := M.length) (p := (a, b)) ha.1 hb.1
 have hnlt : numP M.length (a, b) < N.length * M.length := mul_lt' (by simp only; omega) (by simp only; omega)
 have hnlt2 : a * (M.length : Int) + b < ((N.length * M.length : Nat) : Int) := by
  have : ((numP M.length (a, b) : Nat) : Int) < ((N.length * M.length : Nat) : Int) := by omega
  rw [← hnum] at this; omega
 refine acall_intro (tyP_ok _) c31 2000 [.tmp 8, .tmp 9] Tryz.func31 rfl (by rfl) rfl (by kernel_rfl) ?_
 unfold Tryz.f31
 simp -implicitDefEqProofs (maxSteps := 4000000) (disch := omega) only [push_cast, c31, Nat.reduceAdd, Nat.reduceSub, Nat.reduceMul, Nat.reduceBEq, Int.reduceToNat, Int.reduceNeg, Int.reduceLE, Int.reduceLT, Int.reduceBEq, Int.reduceBNe, Int.reduceEq, eq_self, reduceCtorEq]
 rw [hnmI, Int.toNat_natCast, hnum, ← metL_nil, metL_set, metL_len]
 refine ⟨⟨by omega, by omega, by omega⟩, ⟨by omega, hnlt2⟩, ?_⟩
 refine awp_loop (tyP_ok _) c31 2000 [4, 6, 8, 9, 10, 11, 12, 13] (fun n g st => ∃ i : Nat, g = (false, 0) ∧ i ≤ N.length * M.length ∧ (∀ j c, j < i → j < (bfs (dltP N M) (a, b) k i).1.length → c < k → ¬ difP O Q ((bfs (dltP N M) (a, b) k i).1.getD j (a, b)) c) ∧ n = N.length * M.length - i ∧ st = S31 N O M Q z z' y y' (bfs (dltP N M) (a, b) k i) i) (N.length * M.length) (by kernel_rfl) ?_ ?_
 ·simp -implicitDefEqProofs (maxSteps := 4000000) (disch := omega) only [push_cast, c31, S31, O31, Nat.reduceAdd, Nat.reduceSub, Nat.reduceMul, Nat.reduceBEq, Int.reduceToNat, Int.reduceNeg, Int.reduceLE, Int.reduceLT, Int.reduceBEq, Int.reduceBNe, Int.reduceEq, eq_self, reduceCtorEq]
  refine ⟨0, Nat.zero_le _, fun j c h => by omega, rfl, ?_⟩
  simp [bfs, pairL, wordsL, wordOf, upW, List.range_succ]
 rintro n g st ⟨i, rfl, hi, hnd, rfl, rfl⟩
 have hinv := bfs_inv (δ := dltP N M) (s0 := (a, b)) (k := k) i
 have hbd := pair_len hN hM ha hb hinv
 have hin := pair_in hN hM ha hb hinv
 have hmore : More (a, b) (bfs (dltP N M) (a, b) k i) (finP N M a b k) := by
  have := bfs_more (δ := dltP N M) (s0 := (a, b)) (k := k) (i := i) (N.length * M.length - i)
  rwa [show i + (N.length * M.length - i) = N.length * M.length by omega] at this
 generalize hq0 : bfs (dltP N M) (a, b) k i = q0 at *
 simp -implicitDefEqProofs (maxSteps := 4000000) (disch := omega) only [push_cast, c31, S31, O31, pairL_len, Nat.reduceAdd, Nat.reduceSub, Nat.reduceMul, Nat.reduceBEq, Int.reduceToNat, Int.reduceNeg, Int.reduceLE, Int.reduceLT, Int.reduceBEq, Int.reduceBNe, Int.reduceEq, eq_self, reduceCtorEq]
 refine ⟨fun hlt => ⟨hlt, ?_⟩, fun hge => ?_⟩
 ·have hgp := pairL_get (d := (a, b)) hlt
  obtain ⟨⟨hp1, hp2⟩, hp3, hp4⟩ := hin i hlt
  have hol := hN.ol
  have hql := hM.ol
  generalize hp : q0.1.getD i (a, b) = p at *
  have ho1 : (O.getD p.1.toNat []).length = k := (hN.orow _ (getD_mem' (by omega))).1
  have ho2 : (Q.getD p.2.toNat []).length = k := (hM.orow _ (getD_mem' (by omega))).1
  have hn1 : (N.getD p.1.toNat []).length = k := (hN.v.row _ (getD_mem' (by omega))).1
  have hn2 : (M.getD p.2.toNat []).length = k := (hM.v.row _ (getD_mem' (by omega))).1
  simp -implicitDefEqProofs (maxSteps := 4000000) (disch := omega) only [push_cast, c31, hgp, pairL_len, Nat.reduceAdd, Nat.reduceSub, Nat.reduceMul, Nat.reduceBEq, Int.reduceToNat, Int.reduceNeg, Int.reduceLE, Int.reduceLT, Int.reduceBEq, Int.reduceBNe, Int.reduceEq, eq_self, reduceCtorEq]
  refine ⟨hlt, ?_⟩
  refine awp_upto (tyP_ok _) c31 2000 [4, 6, 8, 9, 10, 11, 12, 13, 14, 15, 16] (k) (fun c => ∀ c', c' < c → ¬ difP O Q p c') (fun c => R31 N O M Q z z' y y' (inn (dltP N M) (a, b) i q0 c) i p c) (by kernel_rfl) ?_ ?_ ?_
  ·simp -implicitDefEqProofs (maxSteps := 4000000) (disch := omega) only [push_cast, c31, R31, O31, Nat.reduceAdd, Nat.reduceSub, Nat.reduceMul, Nat.reduceBEq, Int.reduceToNat, Int.reduceNeg, Int.reduceLE, Int.reduceLT, Int.reduceBEq, Int.reduceBNe, Int.reduceEq, eq_self, reduceCtorEq]
   exact ⟨rfl, rfl, rfl⟩
  ·exact fun c' h => by omega
  intro c hc hnc
  obtain ⟨hinv2, hle2⟩ := inn_inv hinv hlt c hc
  have hi2l : i < (inn (dltP N M) (a, b) i q0 c).1.length := by omega
  have hlen2 := pair_len hN hM ha hb hinv2
  have hsl := hinv2.len
  have hall := BInv.all hN hM ha hb hinv2
  have hold := @inn_old _ _ (dltP N M) (a, b) i c q0
  have hnew := @inn_new _ _ (dltP N M) (a, b) i c q0
  have hm2 := (inn_more (δ := dltP N M) (s0 := (a, b)) (i := i) hinv.len c).1
  have hpx : (inn (dltP N M) (a, b) i q0 c).1.getD i (a, b) = p := by rw [hm2.l1 i hlt, hp]
  have hwx : wordOf (inn (dltP N M) (a, b) i q0 c).2 i = wordOf q0.2 i := wordOf_more hm2 hinv.tree hinv.len hlt
  rw [hpx] at hold hnew
  have hdl : dltP N M p c = ((N.getD p.1.toNat []).getD c 0, (M.getD p.2.toNat []).getD c 0) := by simp [dltP, nxG]
  rw [hdl] at hold hnew
  have hwg := wordsL_get hi2l
  have hwl := wordOf_len hinv2.tree i (by omega)
  simp -implicitDefEqProofs (maxSteps := 4000000) (disch := omega) only [push_cast, c31, R31, O31, Nat.reduceAdd, Nat.reduceSub, Nat.reduceMul, Nat.reduceBEq, Int.reduceToNat, Int.reduceNeg, Int.reduceLE, Int.reduceLT, Int.reduceBEq, Int.reduceBNe, Int.reduceEq, eq_self, reduceCtorEq]
  refine callW_eq _ _ (f57 N O z z' (by have := hN.v.n1; omega)) ?_
  rw [hN.k0]
  simp -implicitDefEqProofs (maxSteps := 4000000) (disch := omega) only [push_cast, c31, R31, O31, pairL_len, wordsL_len, metL_len, ho1, ho2, hn1, hn2, hwg, Nat.reduceAdd, Nat.reduceSub, Nat.reduceMul, Nat.reduceBEq, Int.reduceToNat, Int.reduceNeg, Int.reduceLE, Int.reduceLT, Int.reduceBEq, Int.reduceBNe, Int.reduceEq, eq_self, reduceCtorEq]
  refine ⟨fun hck => ?_, fun hck => ?_⟩
  ·have hu : 0 ≤ (N.getD p.1.toNat []).getD c 0 ∧ (N.getD p.1.toNat []).getD c 0 < N.length := by
    have := hN.nx hp1 hp2 hck
    simpa [nxG] using this
   have hv : 0 ≤ (M.getD p.2.toNat []).getD c 0 ∧ (M.getD p.2.toNat []).getD c 0 < M.length := by
    have := hM.nx hp3 hp4 hck
    simpa [nxG] using this
   generalize (N.getD p.1.toNat []).getD c 0 = u at *
   generalize (M.getD p.2.toNat []).getD c 0 = v at *
   have huv := mul_60 (n := M.length) hu.1 (by omega) hm
   have hnum2 : (u * (M.length : Int) + v).toNat = numP M.length (u, v) := numP_int (n := M.length) (p := (u, v)) hu.1 hv.1
   have hlt3 : numP M.length (u, v) < N.length * M.length := mul_lt' (by simp only; omega) (by simp only; omega)
   have hgm := metL_get (p := (u, v)) hall ⟨hu, hv⟩
   rw [wrap_in (n := u * (M.length : Int)) (by omega), wrap_in (by omega), hnum2, hgm, hnmI, hwx]
   rw [hwx] at hwl
   have hrng : 0 ≤ u * (M.length : Int) + v ∧ u * (M.length : Int) + v < ((N.length * M.length : Nat) : Int) := by omega
   refine ⟨hi2l, by omega, by omega, ⟨hp1, by omega⟩, hck, ⟨hp3, by omega⟩, hck, fun hd => ?_, fun he => ⟨⟨hp1, hp2⟩, hck, ⟨hp3, hp4⟩, hck, hrng, fun hnew2 => ⟨hrng, ⟨fun r hr v' hv' => ?_, by omega⟩, by omega, hck, ?_, ?_⟩, fun hold2 => ⟨hck, ?_, ?_⟩⟩⟩
   ·have hd2 : difP O Q p c := by simpa [difP, outG] using hd
    exact .inl ⟨_, .inl ⟨i, c, Nat.lt_of_lt_of_le hlt hmore.len, hck, by rw [hmore.l1 i hlt, hp]; exact hd2, by rw [hmore.l1 i hlt, hp]; exact hnc, fun j c' hj hc' => by rw [hmore.l1 j (by omega)]; exact hnd j c' hj (by omega) hc', by rw [wordOf_more hmore hinv.tree hinv.len hlt], rfl⟩, rfl⟩
   ·simp only [List.mem_singleton] at hr
    subst hr
    simp only [List.mem_cons, List.not_mem_nil, or_false] at hv'
    rcases hv' with rfl | rfl <;> rfl
   ·exact upto_succ hnc fun h => h (by simpa [outG] using he)
   ·have hnot : (u, v) ∉ (inn (dltP N M) (a, b) i q0 c).1 := of_decide_eq_false hnew2
    rw [hnew hnot]
    refine ⟨pairL_app _ (u, v) _, ?_, metL_set⟩
    rw [← hwx]
    exact wordsL_app hsl hinv2.tree hi2l
   ·exact upto_succ hnc fun h => h (by simpa [outG] using he)
   ·rw [hold (of_decide_eq_true hold2)]
    exact ⟨rfl, rfl, rfl⟩
  ·have hck2 : c = k := by omega
   subst hck2
   have hb2 : inn (dltP N M) (a, b) i q0 c = bfs (dltP N M) (a, b) c (i + 1) := by
    rw [bfs, hq0, if_pos hlt]
   have hl1 := hm2.l1
   rw [hb2] at hl1 hpx ⊢
   refine ⟨N.length * M.length - (i + 1), by omega, i + 1, by omega, fun j c' hj hjl hc' => ?_, rfl, by omega, rfl, rfl, rfl⟩
   by_cases hji : j < i
   ·rw [hl1 j (by omega)]; exact hnd j c' hji (by omega) hc'
   ·obtain rfl : j = i := by omega
    rw [hpx]; exact hnc c' hc'
 ·refine .inr (.inr ⟨fun j c' hj hc' => ?_, rfl, rfl⟩)
  have hfin : finP N M a b k = q0 := by
   have := bfs_stop (δ := dltP N M) (s0 := (a, b)) (k := k) (i := i) (by rw [hq0]; omega) (N.length * M.length - i)
   rw [show i + (N.length * M.length - i) = N.length * M.length by omega, hq0] at this
   exact this
  rw [hfin] at hj ⊢
  exact hnd j c' (by omega) hj hc'
end Go.AM
end

section
namespace Go.AM
open Go Go.Proofs Go.Sort
section
variable {N O : List (List Int)} {k : Nat}
theorem min_pair2 (hV : VM N O k) (hmin : cntT N O k = N.length) {p q : Int} (hp : 0 ≤ p ∧ p < N.length) (hq : 0 ≤ q ∧ q < N.length) (hpq : p < q) : ∃ w : List Int, (∀ c ∈ w, 0 ≤ c ∧ c < (k : Int)) ∧ outsG N O p w ≠ outsG N O q w := by
 obtain ⟨a, ha, b, hb, hab, w, _, w2, w3⟩ := moore_set (P := [p, q]) hV.cm hmin (by simp; omega) (by simp; omega) (by simp)
 have : (a = p ∧ b = q) ∨ (a = q ∧ b = p) := by
  simp at ha hb
  omega
 rcases this with ⟨rfl, rfl⟩ | ⟨rfl, rfl⟩
 ·exact ⟨w, w2, w3⟩
 ·exact ⟨w, w2, w3.symm⟩
end
theorem strict_len2 {P : List Int} {n : Nat} (hlt : P.Pairwise (· < ·)) (hst : ∀ p ∈ P, 0 ≤ p ∧ p < (n : Int)) : P.length ≤ n := by
 refine pigeon n _ (fun m => (P.getD m 0).toNat) (fun m hm => ?_) fun m m' hm hm' e => ?_
 ·have := hst _ (getDP_mem hm)
  show (P.getD m 0).toNat < n
  omega
 ·have e : (P.getD m 0).toNat = (P.getD m' 0).toNat := e
  have h1 := hst _ (getDP_mem hm)
  have h2 := hst _ (getDP_mem hm')
  have h3 : P[m] = P[m'] := by
   have : P.getD m 0 = P.getD m' 0 := by omega
   simpa [List.getD, hm, hm'] using this
  rcases Nat.lt_trichotomy m m' with h | h | h
  ·have := List.pairwise_iff_getElem.1 hlt m m' hm hm' h; omega
  ·exact h
  ·have := List.pairwise_iff_getElem.1 hlt m' m hm' hm h; omega
theorem allS_len' (n : Nat) : (allS n).length = n := by simp [allS]
def c9 : VCfg := ⟨⟨[], [], [6, 7], [0, 1, 2, 4, 5, 6, 7, 8, 9, 10, 11, 12, 14, 15, 16, 17, 18, 19, 20, 25, 34, 38, 43, 81, 97, 112, 123, 129]⟩, [(14, (.op 0 .loose (.op 1 .loose (.op 2 .loose (.op 3 .loose (.op 4 .loose (.op 5 .loose (.op 6 .loose (.op 7 .loose (.op 8 .loose (.op 9 .loose (.op 10 .eff (.op 11 .loose (.op 12 .loose (.op 13 .loose (.op 14 .loose (.op 15 .loose .nil))))))))))))))))), (22, (.op 0 .loose (.op 1 .loose (.op 2 .loose (.op 3 .loose (.op 4 .loose (.op 5 .loose (.op 6 .eff (.op 7 .loose (.op 8 .loose (.op 9 .loose (.op 10 .loose (.op 11 .loose .nil))))))))))))), (31, (.op 0 .loose (.op 1 .loose (.op 2 .loose (.op 3 .loose (.op 4 .loose (.op 5 .loose .nil)))))))], [], []⟩
set_option maxHeartbeats 8000000 in
set_option maxRecDepth 100000 in
theorem f9 (N O : List (List Int)) (z z' : Bool) (s0 : Int) (k : Nat) (hV : VM N O k) (hmin : cntT N O k = N.length) (hs : 0 ≤ s0 ∧ s0 < N.length) :
  ACall Tryz.prog 9 [.agg [.pay (.rows (N)) (z), .pay (.rows (O)) (z')], .int .i64 s0] (fun r objs => ∃ j v t P nz, Chn N O k s0 j v t P ∧ P.length ≤ 1 ∧ r = .tup [.pay (.ints .i64 v) nz, .int .i64 t] ∧ objs = []) := by
 suffices h : ACall Tryz.prog 9 [.agg [.pay (.rows (N)) (z), .pay (.rows (O)) (z')], .int .i64 s0] (fun r objs => ∃ j v t P nz, Chn N O k s0 j v t P ∧ P.length ≤ 1 ∧ r = .tup [.own 0, .int .i64 t] ∧ objs = [.arr (.ints .i64 v) ⟨3, nz⟩]) by
  refine h.frz ?_
  rintro r objs ⟨j, v, t, P, nz, h1, h2, rfl, rfl⟩
  exact ⟨[0], _, 1, rfl, j, v, t, P, _, h1, h2, rfl, rfl⟩
 have hn1 := hV.v.n1
 have hn2 := hV.v.n2
 refine acall_intro (tyP_ok _) c9 2000 [.tmp 4, .tmp 5] Tryz.func9 rfl (by rfl) rfl (by kernel_rfl) ?_
 unfold Tryz.f9
 simp -implicitDefEqProofs (maxSteps := 4000000) (disch := omega) only [push_cast, c9, Nat.reduceAdd, Nat.reduceSub, Nat.reduceMul, Nat.reduceBEq, Int.reduceToNat, Int.reduceNeg, Int.reduceLE, Int.reduceLT, Int.reduceBEq, Int.reduceBNe, Int.reduceEq, eq_self, reduceCtorEq]
 refine awp_upd (tyP_ok _) c9 2000 [1, 2, 4, 5, 6, 7, 8] (N.length) (fun _ => True) (fun t => [(8, .int .i64 t)]) (fun t => [(1, .arr (.ints .i64 (allS t)) ⟨3, true⟩)]) (by kernel_rfl) rfl ?_ ?_
 ·trivial
 intro t0 ht0 _
 have hal := allS_len t0
 simp -implicitDefEqProofs (maxSteps := 4000000) (disch := omega) only [push_cast, c9, Nat.reduceAdd, Nat.reduceSub, Nat.reduceMul, Nat.reduceBEq, Int.reduceToNat, Int.reduceNeg, Int.reduceLE, Int.reduceLT, Int.reduceBEq, Int.reduceBNe, Int.reduceEq, eq_self, reduceCtorEq]
 refine ⟨fun hlt => ⟨by omega, hlt, by simp [allS, List.range_succ]⟩, fun hge => ?_⟩
 obtain rfl : t0 = N.length := by omega
 refine awp_loop (tyP_ok _) c9 2000 [1, 2, 4, 5, 6, 7] (fun n g st => ∃ (j : Nat) (v : List Int) (s : Int) (P : List Int), g = (false, 0) ∧ Chn N O k s0 j v s P ∧ n = P.length ∧ st = ⟨138, [(1, .int .i64 s), (2, .fref [.pay (.rows N) z, .pay (.rows O) z']), (4, .pay (.ints .i64 []) true), (5, .int .i64 0), (6, .own 0), (7, .own 1)], [.arr (.ints .i64 v) ⟨3, true⟩, .arr (.ints .i64 P) ⟨3, true⟩]⟩) N.length (by kernel_rfl) ?_ ?_
 ·refine ⟨0, [], s0, allS N.length, rfl, .nil, (allS_len _).symm, ?_⟩
  simp -implicitDefEqProofs (maxSteps := 4000000) (disch := omega) only [push_cast, c9, Nat.reduceAdd, Nat.reduceSub, Nat.reduceMul, Nat.reduceBEq, Int.reduceToNat, Int.reduceNeg, Int.reduceLE, Int.reduceLT, Int.reduceBEq, Int.reduceBNe, Int.reduceEq, eq_self, reduceCtorEq]
 rintro n g st ⟨j, v, s, P, rfl, hc, rfl, rfl⟩
 have hok := hc.ok hV hmin hs
 have hbd := hok.bud
 have hba := budG_all (n := N.length)
 have hnn : N.length * (N.length - 1) ≤ 60 * 59 := Nat.mul_le_mul hn2 (by omega)
 have hsm := hok.st s hok.mem
 have hPn : P.length ≤ 60 := Nat.le_trans (strict_len2 hok.lt hok.st) hn2
 simp -implicitDefEqProofs (maxSteps := 4000000) (disch := omega) only [push_cast, c9, Nat.reduceAdd, Nat.reduceSub, Nat.reduceMul, Nat.reduceBEq, Int.reduceToNat, Int.reduceNeg, Int.reduceLE, Int.reduceLT, Int.reduceBEq, Int.reduceBNe, Int.reduceEq, eq_self, reduceCtorEq]
 refine ⟨fun h2 => ?_, fun h2 => ?_⟩
 ·refine awp_loop (tyP_ok _) c9 2000 [1, 2, 4, 5, 6, 7, 9, 10] (fun n g st => ∃ (i : Nat) (w : List Int) (nz : Bool), g = (false, 0) ∧ i ≤ P.length ∧ BR N O k P i 0 w ∧ w.length ≤ 60 ∧ n = P.length - i ∧ st = ⟨138, [(1, .int .i64 s), (2, .fref [.pay (.rows N) z, .pay (.rows O) z']), (4, .pay (.ints .i64 []) true), (5, .int .i64 0), (6, .own 0), (7, .own 1), (9, .pay (.ints .i64 w) nz), (10, .int .i64 i)], [.arr (.ints .i64 v) ⟨3, true⟩, .arr (.ints .i64 P) ⟨3, true⟩]⟩) P.length (by kernel_rfl) ?_ ?_
  ·refine ⟨0, [], true, rfl, by omega, BR.zero, by simp, rfl, ?_⟩
   simp -implicitDefEqProofs (maxSteps := 4000000) (disch := omega) only [push_cast, c9, Nat.reduceAdd, Nat.reduceSub, Nat.reduceMul, Nat.reduceBEq, Int.reduceToNat, Int.reduceNeg, Int.reduceLE, Int.reduceLT, Int.reduceBEq, Int.reduceBNe, Int.reduceEq, eq_self, reduceCtorEq]
   try rfl
  rintro n g st ⟨i, w, nz, rfl, hi, hBR, hwl, rfl, rfl⟩
  simp -implicitDefEqProofs (maxSteps := 4000000) (disch := omega) only [push_cast, c9, Nat.reduceAdd, Nat.reduceSub, Nat.reduceMul, Nat.reduceBEq, Int.reduceToNat, Int.reduceNeg, Int.reduceLE, Int.reduceLT, Int.reduceBEq, Int.reduceBNe, Int.reduceEq, eq_self, reduceCtorEq]
  refine ⟨fun hlt => ?_, fun hge => ?_⟩
  ·refine awp_loop (tyP_ok _) c9 2000 [1, 2, 4, 5, 6, 7, 9, 10, 11] (fun n g st => ∃ (q : Nat) (w : List Int) (nz : Bool), g = (false, 0) ∧ q ≤ i ∧ BR N O k P i q w ∧ w.length ≤ 60 ∧ n = i - q ∧ st = ⟨138, [(1, .int .i64 s), (2, .fref [.pay (.rows N) z, .pay (.rows O) z']), (4, .pay (.ints .i64 []) true), (5, .int .i64 0), (6, .own 0), (7, .own 1), (9, .pay (.ints .i64 w) nz), (10, .int .i64 i), (11, .int .i64 q)], [.arr (.ints .i64 v) ⟨3, true⟩, .arr (.ints .i64 P) ⟨3, true⟩]⟩) i (by kernel_rfl) ?_ ?_
   ·refine ⟨0, w, nz, rfl, by omega, hBR, hwl, rfl, ?_⟩
    simp -implicitDefEqProofs (maxSteps := 4000000) (disch := omega) only [push_cast, c9, Nat.reduceAdd, Nat.reduceSub, Nat.reduceMul, Nat.reduceBEq, Int.reduceToNat, Int.reduceNeg, Int.reduceLE, Int.reduceLT, Int.reduceBEq, Int.reduceBNe, Int.reduceEq, eq_self, reduceCtorEq]
   rintro n g st ⟨q, w, nz, rfl, hq, hBR, hwl, rfl, rfl⟩
   simp -implicitDefEqProofs (maxSteps := 4000000) (disch := omega) only [push_cast, c9, Nat.reduceAdd, Nat.reduceSub, Nat.reduceMul, Nat.reduceBEq, Int.reduceToNat, Int.reduceNeg, Int.reduceLE, Int.reduceLT, Int.reduceBEq, Int.reduceBNe, Int.reduceEq, eq_self, reduceCtorEq]
   refine ⟨fun hqi => ?_, fun hqi => ?_⟩
   ·have hp1 := hok.st _ (getDP_mem (show q < P.length by omega))
    have hp2 := hok.st _ (getDP_mem hlt)
    have hlt2 : P.getD q 0 < P.getD i 0 := by
     have := List.pairwise_iff_getElem.1 hok.lt q i (by omega) hlt hqi
     simpa [List.getD, hlt, show q < P.length by omega] using this
    refine ⟨by omega, hlt, ?_⟩
    refine callW_rel (f31 N O N O z z' z z' (P.getD q 0) (P.getD i 0) k hV hV hp1 hp2) ?_
    rintro R O' ⟨u, ok, nz2, hT, rfl, rfl⟩
    simp -implicitDefEqProofs (maxSteps := 4000000) (disch := omega) only [push_cast, c9, Nat.reduceAdd, Nat.reduceSub, Nat.reduceMul, Nat.reduceBEq, Int.reduceToNat, Int.reduceNeg, Int.reduceLE, Int.reduceLT, Int.reduceBEq, Int.reduceBNe, Int.reduceEq, eq_self, reduceCtorEq]
    have hokt : ok = true := by
     cases ok with
     | true => rfl
     | false =>
      obtain ⟨y, y1, y2⟩ := min_pair2 hV hmin hp1 hp2 hlt2
      exact absurd (hT.none hV hV hp1 hp2 y y1) y2
    subst hokt
    have hT1 := hT.first hV hV hp1 hp2
    have hT2 := hT.moore hV hp1 hp2
    have hpick := hBR.pick (u := u) hqi hlt hT1.1 (fun e => hT1.2.2.1 e.symm) (fun y hy hne => hT1.2.2.2 y hy (fun e => hne e.symm))
    unfold takB at hpick
    have hul : u.length ≤ 60 := by omega
    have hwq : IntKind.i64.wrap ((q : Int) + 1) = (q : Int) + 1 := wrap_nat (by omega) (by omega)
    refine ⟨fun h0 => ⟨i - (q + 1), by omega, q + 1, u, nz2, by omega, hpick.1 (.inl (by omega)), hul, rfl, ⟨rfl, rfl⟩, by omega⟩, fun h0 => ⟨fun h1 => ⟨i - (q + 1), by omega, q + 1, u, nz2, by omega, hpick.1 (.inr (.inl h1)), hul, rfl, ⟨rfl, rfl⟩, by omega⟩, fun h1 => ⟨fun h2 => ?_, fun h2 => ⟨i - (q + 1), by omega, q + 1, w, nz, by omega, hpick.2 (fun g => by rcases g with g | g | g <;> omega), hwl, rfl, ⟨rfl, rfl⟩, by omega⟩⟩⟩⟩
    refine callW_eq _ _ (f32 u w nz2 nz (by omega)) ?_
    simp -implicitDefEqProofs (maxSteps := 4000000) (disch := omega) only [push_cast, c9, Nat.reduceAdd, Nat.reduceSub, Nat.reduceMul, Nat.reduceBEq, Int.reduceToNat, Int.reduceNeg, Int.reduceLE, Int.reduceLT, Int.reduceBEq, Int.reduceBNe, Int.reduceEq, eq_self, reduceCtorEq]
    exact ⟨fun h3 => ⟨i - (q + 1), by omega, q + 1, u, nz2, by omega, hpick.1 (.inr (.inr ⟨h2, h3⟩)), hul, rfl, ⟨rfl, rfl⟩, by omega⟩, fun h3 => ⟨i - (q + 1), by omega, q + 1, w, nz, by omega, hpick.2 (fun g => by rcases g with g | g | g; omega; omega; rw [h3] at g; cases g.2), hwl, rfl, ⟨rfl, rfl⟩, by omega⟩⟩
   ·obtain rfl : q = i := by omega
    have hwq : IntKind.i64.wrap ((q : Int) + 1) = (q : Int) + 1 := wrap_nat (by omega) (by omega)
    exact ⟨P.length - (q + 1), by omega, q + 1, w, nz, by omega, hBR.row, hwl, rfl, ⟨rfl, rfl⟩, by omega⟩
  ·obtain rfl : i = P.length := by omega
   have hB := hBR.best (by omega)
   have hc2 := hc.step (by omega) hB
   have hok2 := hc2.ok hV hmin hs
   have hbd2 := hok2.bud
   have hwl2 : v.length + w.length ≤ 1770 := by rw [List.length_append] at hbd2; omega
   have hlw : ∀ p ∈ P, 0 ≤ leadG N p w ∧ leadG N p w < (N.length : Int) := fun p hp => hV.v.lead w (hok.st p hp).1 (hok.st p hp).2 hB.1
   refine callW_rel (f33 N O z z' nz s w k hV hsm hB.1 (by omega)) ?_
   rintro R O' ⟨nz3, rfl, rfl⟩
   simp -implicitDefEqProofs (maxSteps := 4000000) (disch := omega) only [push_cast, c9, Nat.reduceAdd, Nat.reduceSub, Nat.reduceMul, Nat.reduceBEq, Int.reduceToNat, Int.reduceNeg, Int.reduceLE, Int.reduceLT, Int.reduceBEq, Int.reduceBNe, Int.reduceEq, eq_self, reduceCtorEq]
   refine ⟨⟨by omega, by omega⟩, ?_⟩
   refine awp_upd (tyP_ok _) c9 2000 [1, 2, 4, 5, 6, 7, 9, 14, 15, 16, 17] (P.length) (fun _ => True) (fun i => [(17, .int .i64 i)]) (fun i => [(2, .arr (.bools (mkI N O s w P i)) ⟨4, false⟩)]) (by kernel_rfl) rfl ?_ ?_
   ·trivial
   intro i hi _
   have hml := mkI_len (N := N) (O := O) (s := s) (w := w) (P := P) i
   simp -implicitDefEqProofs (maxSteps := 4000000) (disch := omega) only [push_cast, c9, Nat.reduceAdd, Nat.reduceSub, Nat.reduceMul, Nat.reduceBEq, Int.reduceToNat, Int.reduceNeg, Int.reduceLE, Int.reduceLT, Int.reduceBEq, Int.reduceBNe, Int.reduceEq, eq_self, reduceCtorEq]
   refine ⟨fun hlt => ?_, fun hge => ?_⟩
   ·have hp := hok.st _ (getDP_mem hlt)
    have hlp := hlw _ (getDP_mem hlt)
    refine ⟨hlt, ?_⟩
    refine callW_rel (f33 N O z z' nz (P.getD i 0) w k hV hp hB.1 (by omega)) ?_
    rintro R O' ⟨nz4, rfl, rfl⟩
    simp -implicitDefEqProofs (maxSteps := 4000000) (disch := omega) only [push_cast, c9, Nat.reduceAdd, Nat.reduceSub, Nat.reduceMul, Nat.reduceBEq, Int.reduceToNat, Int.reduceNeg, Int.reduceLE, Int.reduceLT, Int.reduceBEq, Int.reduceBNe, Int.reduceEq, eq_self, reduceCtorEq]
    refine callW_eq _ _ (f10 (outsG N O (P.getD i 0) w) (outsG N O s w) nz4 nz3 (by rw [outsG_len]; omega)) ?_
    simp -implicitDefEqProofs (maxSteps := 4000000) (disch := omega) only [push_cast, c9, Nat.reduceAdd, Nat.reduceSub, Nat.reduceMul, Nat.reduceBEq, Int.reduceToNat, Int.reduceNeg, Int.reduceLE, Int.reduceLT, Int.reduceBEq, Int.reduceBNe, Int.reduceEq, eq_self, reduceCtorEq]
    exact ⟨fun he => ⟨⟨hlp.1, by omega⟩, hlt, by rw [mkI, if_pos he]⟩, fun hne => ⟨hlt, by rw [mkI, if_neg hne]⟩⟩
   ·obtain rfl : i = P.length := by omega
    have hpos := lfI_pos (O := O) (s := s) hlw
    refine ⟨by omega, ?_⟩
    generalize mkI N O s w P P.length = A at *
    refine awp_upd (tyP_ok _) c9 2000 [1, 2, 4, 5, 6, 7, 16, 20] (N.length) (fun _ => True) (fun t => [(20, .int .i64 t)]) (fun t => [(1, .arr (.ints .i64 (lfI A t)) ⟨3, true⟩)]) (by kernel_rfl) rfl ?_ ?_
    ·trivial
    intro t ht _
    have hll := lfI_len (A := A) t
    simp -implicitDefEqProofs (maxSteps := 4000000) (disch := omega) only [push_cast, c9, Nat.reduceAdd, Nat.reduceSub, Nat.reduceMul, Nat.reduceBEq, Int.reduceToNat, Int.reduceNeg, Int.reduceLE, Int.reduceLT, Int.reduceBEq, Int.reduceBNe, Int.reduceEq, eq_self, reduceCtorEq]
    refine ⟨fun hlt => ⟨hlt, fun ha => ⟨by omega, by omega, by rw [lfI, if_pos ha]⟩, fun ha => ⟨by omega, by rw [lfI, if_neg (by rw [ha]; simp)]⟩⟩, fun hge => ?_⟩
    obtain rfl : t = N.length := by omega
    exact ⟨(posL N O s w P).length, posL_lt hB.2.1, j + 1, v ++ w, leadG N s w, posL N O s w P, hc2, rfl, rfl, rfl, hpos⟩
 ·have hP1 : P = [s] := by
   match P, hok.mem, (show P.length ≤ 1 by omega) with
   | [a], h, _ => rw [List.mem_singleton.1 h]
  subst hP1
  exact ⟨by simp, j, v, s, [s], true, hc, by simp, rfl, rfl, rfl⟩
end Go.AM
end

/-
  Contracts of search, Shortest, Telling and of the chapter's examples; conditions in each statement.
-/
import Derived.Test.YtkpoffjimfiabaaGreatS6
import Derived.Test.YtkpoffjimfiabaaGreatP5
import Derived.Test.YtkpoffjimfiabaaGreatF4
import Derived.Test.YtkpoffjimfiabaaGreatS1
set_option linter.unusedVariables false
set_option linter.unusedSimpArgs false
set_option linter.unusedSectionVars false
set_option linter.unnecessarySimpa false

section
namespace Go.AM
open Go Go.Proofs Go.Sort
def revS (l : List Int) (i : Nat) : List Int := (List.range l.length).map fun p => if p < i ∨ l.length - 1 - p < i then l.getD (l.length - 1 - p) 0 else l.getD p 0
theorem revS_len (l : List Int) (i : Nat) : (revS l i).length = l.length := by simp [revS]
theorem revS_get (l : List Int) (i p : Nat) (h : p < l.length) : (revS l i).getD p 0 = if p < i ∨ l.length - 1 - p < i then l.getD (l.length - 1 - p) 0 else l.getD p 0 := by
 simp [revS, List.getD, h]
theorem revS_zero (l : List Int) : revS l 0 = l := ints_eq' (revS_len l 0) fun j hj => by
 rw [revS_len] at hj
 rw [revS_get l 0 j hj, if_neg (by omega)]
theorem revS_step (l : List Int) (i : Nat) (h : i < l.length / 2) : ((revS l i).set i ((revS l i).getD (l.length - 1 - i) 0)).set (l.length - 1 - i) ((revS l i).getD i 0) = revS l (i + 1) := ints_eq' (by simp [revS_len]) fun p hp => by
 simp only [List.length_set, revS_len] at hp
 rw [revS_get l (i + 1) p hp]
 simp only [List.getD_eq_getElem?_getD, List.getElem?_set]
 simp only [← List.getD_eq_getElem?_getD, List.length_set, revS_len]
 by_cases h1 : l.length - 1 - i = p
 ·subst h1
  rw [if_pos rfl, if_pos hp]
  simp only [Option.getD_some]
  rw [revS_get l i i (by omega), if_neg (by omega), if_pos (by omega)]
  congr 1; omega
 ·rw [if_neg h1]
  by_cases h2 : i = p
  ·subst h2
   rw [if_pos rfl, if_pos (by omega)]
   simp only [Option.getD_some]
   rw [revS_get l i _ (by omega), if_neg (by omega), if_pos (by omega)]
  ·rw [if_neg h2, ← List.getD_eq_getElem?_getD, revS_get l i p hp]
   by_cases h3 : p < i ∨ l.length - 1 - p < i
   ·rw [if_pos h3, if_pos (by omega)]
   ·rw [if_neg h3, if_neg (by omega)]
theorem revS_end (l : List Int) (i : Nat) (h : l.length ≤ 2 * i + 1) : revS l i = l.reverse := ints_eq' (by simp [revS_len]) fun p hp => by
 rw [revS_len] at hp
 rw [revS_get l i p hp]
 have e : l.reverse.getD p 0 = l.getD (l.length - 1 - p) 0 := by simp [List.getD, List.getElem?_reverse hp]
 rw [e]
 split
 ·rfl
 ·congr 1; omega
def c63 : VCfg := ⟨⟨[], [], [], [0, 2, 3, 9]⟩, [(3, (.op 0 .loose (.op 1 .loose (.op 2 .strict (.op 3 .strict (.op 4 .loose (.op 5 .loose (.op 6 .loose (.op 7 .loose (.op 8 .strict (.op 9 .strict (.op 10 .strict (.op 11 .loose (.op 12 .loose (.op 13 .eff (.op 14 .loose (.op 15 .eff .nil)))))))))))))))))], [], []⟩
theorem f63 (y : Yc) (g : Gh) (l : List Int) (ai : AI) (hl : l.length ≤ 4611686018427387904) :
  GCall Tryz.prog y 63 g [.own 0] [.arr (.ints .i64 l) ai] (fun g' r A O => g' = g ∧ r = .tup [] ∧ A = [.own 0] ∧ O = [.arr (.ints .i64 l.reverse) ai]) := by
 refine gcall_intro (tyP_ok _) c63 2000 [] [0] Tryz.func63 rfl (by rfl) rfl (by rfl) (by kernel_rfl) (by kernel_rfl) ?_
 unfold Tryz.f63
 simp -implicitDefEqProofs (maxSteps := 4000000) (disch := omega) only [push_cast, c63, Nat.reduceAdd, Nat.reduceSub, Nat.reduceMul, Nat.reduceBEq, Int.reduceToNat, Int.reduceNeg, Int.reduceLE, Int.reduceLT, Int.reduceBEq, Int.reduceBNe, Int.reduceEq, eq_self, reduceCtorEq]
 refine awp_upto (tyP_ok _) c63 2000 [0, 2, 3] (l.length / 2) (fun _ => True) (fun i => ⟨28, [(0, .own 0), (2, .int .i64 i), (3, .int .i64 ((l.length : Int) - 1 - i))], [.arr (.ints .i64 (revS l i)) ai]⟩) (by kernel_rfl) ?_ ?_ ?_
 ·simp -implicitDefEqProofs (maxSteps := 4000000) (disch := omega) only [push_cast, c63, Nat.reduceAdd, Nat.reduceSub, Nat.reduceMul, Nat.reduceBEq, Int.reduceToNat, Int.reduceNeg, Int.reduceLE, Int.reduceLT, Int.reduceBEq, Int.reduceBNe, Int.reduceEq, eq_self, reduceCtorEq]
  rw [revS_zero]
  exact ⟨by omega, rfl⟩
 ·trivial
 intro i hi _
 simp -implicitDefEqProofs (maxSteps := 4000000) (disch := omega) only [push_cast, c63, Nat.reduceAdd, Nat.reduceSub, Nat.reduceMul, Nat.reduceBEq, Int.reduceToNat, Int.reduceNeg, Int.reduceLE, Int.reduceLT, Int.reduceBEq, Int.reduceBNe, Int.reduceEq, eq_self, reduceCtorEq]
 refine ⟨fun h => ?_, fun h => revS_end l i (by omega)⟩
 have e1 : ((l.length : Int) - 1 - (i : Int)).toNat = l.length - 1 - i := by omega
 rw [e1, List.length_set, revS_len, revS_step l i (by omega)]
 exact ⟨by omega, by omega, by omega, by omega, by omega, by omega, rfl⟩
def c40 : VCfg := ⟨⟨[], [], [], [0, 1, 2, 4, 5, 6, 7, 8, 9, 10, 11, 12, 13, 14, 18, 37, 46, 53, 74, 75, 76, 101]⟩, [(20, (.op 0 .loose (.op 1 .loose (.op 2 .loose (.op 3 .loose (.op 4 .loose (.op 5 .loose (.op 6 .loose (.op 7 .eff (.op 8 .loose (.op 9 .loose (.op 10 .loose (.op 11 .loose (.op 12 .loose .nil))))))))))))))], [63], [68]⟩
def O40 (q : List (List (List Int)) × Stp) (Z : List Bool) : List AObj := [.arr (.gen 3 (placeL q Z)) ⟨97, false⟩, .mapB .str (kMap q.1)]
def S40 (N O : List (List Int)) (z z' tl : Bool) (q : List (List (List Int)) × Stp) (Z : List Bool) (i : Nat) : St :=
 ⟨112, [(1, .bool tl), (2, .fref [.pay (.rows N) z, .pay (.rows O) z']), (4, .pay (.ints .i64 []) true), (5, .int .i64 0), (6, .own 0), (7, .mapr 1), (8, .int .i64 i)], O40 q Z⟩
def R40 (N O : List (List Int)) (z z' tl : Bool) (q : List (List (List Int)) × Stp) (Z : List Bool) (i k x : Nat) : St :=
 ⟨112, [(1, .bool tl), (2, .fref [.pay (.rows N) z, .pay (.rows O) z']), (4, .pay (.ints .i64 []) true), (5, .int .i64 0), (6, .own 0), (7, .mapr 1), (8, .int .i64 i), (74, .int .i64 k), (75, .int .i64 x)], O40 q Z⟩
theorem getD_mem'' {α : Type} {l : List α} {i : Nat} {d : α} (h : i < l.length) : l.getD i d ∈ l := by
 simp [List.getD, h]
set_option maxHeartbeats 8000000 in
set_option maxRecDepth 100000 in
theorem f40 (N O : List (List Int)) (z z' tl : Bool) (hl : N.length ≤ 4611686018427387904) (hl2 : ∀ r ∈ N, r.length ≤ 4611686018427387904) (ho : O.length ≤ 4611686018427387904) (ho2 : ∀ r ∈ O, r.length ≤ 4611686018427387904) :
  ACall Tryz.prog 40 [.agg [.pay (.rows (N)) (z), .pay (.rows (O)) (z')], .bool tl] (fun r objs => ∃ w e nz, SeaR N O tl w e ∧ r = .tup [.pay (.ints .i64 w) nz, .int .i64 e] ∧ objs = []) := by
 suffices h : ACall Tryz.prog 40 [.agg [.pay (.rows (N)) (z), .pay (.rows (O)) (z')], .bool tl] (fun r objs => ∃ w e, SeaR N O tl w e ∧ ((r = .tup [.pay (.ints .i64 w) true, .int .i64 e] ∧ objs = []) ∨ ∃ nz, r = .tup [.own 0, .int .i64 e] ∧ objs = [.arr (.ints .i64 w) ⟨3, nz⟩])) by
  refine h.frz ?_
  rintro r objs ⟨w, e, h1, ⟨rfl, rfl⟩ | ⟨nz, rfl, rfl⟩⟩
  ·exact ⟨[], _, 0, rfl, w, e, true, h1, rfl, rfl⟩
  ·exact ⟨[0], _, 1, rfl, ⟨w, e, _, h1, rfl, rfl⟩⟩
 refine acall_intro (tyP_ok _) c40 2000 [.tmp 4, .tmp 5] Tryz.func40 rfl (by rfl) rfl (by kernel_rfl) ?_
 unfold Tryz.f40
 simp -implicitDefEqProofs (maxSteps := 4000000) (disch := omega) only [push_cast, c40, Nat.reduceAdd, Nat.reduceSub, Nat.reduceMul, Nat.reduceBEq, Int.reduceToNat, Int.reduceNeg, Int.reduceLE, Int.reduceLT, Int.reduceBEq, Int.reduceBNe, Int.reduceEq, eq_self, reduceCtorEq]
 refine callW_eq _ _ (f17 N O z z' hl hl2 ho ho2) ?_
 simp -implicitDefEqProofs (maxSteps := 4000000) (disch := omega) only [push_cast, c40, Nat.reduceAdd, Nat.reduceSub, Nat.reduceMul, Nat.reduceBEq, Int.reduceToNat, Int.reduceNeg, Int.reduceLE, Int.reduceLT, Int.reduceBEq, Int.reduceBNe, Int.reduceEq, eq_self, reduceCtorEq]
 refine ⟨fun hv => ⟨[], 1, .inl ⟨hv, rfl, rfl⟩, .inl ⟨rfl, rfl⟩⟩, fun hv => ?_⟩
 have hV := vmB_iff.1 hv
 have hn2 := hV.v.n2
 have hn1 := hV.v.n1
 have hk2 := hV.v.k2
 refine ⟨fun h7 => ⟨[], 3, .inr (.inl ⟨hv, by omega, rfl, rfl⟩), .inl ⟨rfl, rfl⟩⟩, fun h7 => ?_⟩
 have h7' : N.length ≤ 7 := by omega
 generalize hk : (N.getD 0 []).length = k at *
 refine callW_rel (f36 N O z z' hn2) ?_
 rintro R O' ⟨nz, rfl, rfl⟩
 simp -implicitDefEqProofs (maxSteps := 4000000) (disch := omega) only [push_cast, c40, Nat.reduceAdd, Nat.reduceSub, Nat.reduceMul, Nat.reduceBEq, Int.reduceToNat, Int.reduceNeg, Int.reduceLE, Int.reduceLT, Int.reduceBEq, Int.reduceBNe, Int.reduceEq, eq_self, reduceCtorEq]
 obtain ⟨K, hK⟩ : ∃ K, K = 9 ^ 10 := ⟨_, rfl⟩
 have hf0 : BlkOk N.length (fstB N.length) ∧ tot (fstB N.length) ≤ N.length := ⟨fst_ok _, tot_fst _⟩
 have hk0 := ok_dig h7' hf0
 refine ⟨by omega, ?_⟩
 refine callW_eq _ _ (f62 (fstB N.length) nz (by omega) (by have := (hf0.1.few hf0.2).1; omega) (fun b hb s hs => by have := hf0.1.st b hb s hs; omega)) ?_
 simp -implicitDefEqProofs (maxSteps := 4000000) (disch := omega) only [push_cast, c40, Nat.reduceAdd, Nat.reduceSub, Nat.reduceMul, Nat.reduceBEq, Int.reduceToNat, Int.reduceNeg, Int.reduceLE, Int.reduceLT, Int.reduceBEq, Int.reduceBNe, Int.reduceEq, eq_self, reduceCtorEq]
 rw [strK_key hk0.1]
 refine ⟨fun x hx => (by cases hx), ?_⟩
 refine awp_loop (tyP_ok _) c40 2000 [1, 2, 4, 5, 6, 7, 8] (fun n g st => ∃ (i : Nat) (Z : List Bool), g = (false, 0) ∧ i ≤ K ∧ Z.length = (bfs (dltB N O tl) (fstB N.length) k i).1.length ∧ (∀ j, j < i → j < (bfs (dltB N O tl) (fstB N.length) k i).1.length → (bfs (dltB N O tl) (fstB N.length) k i).1.getD j (fstB N.length) ≠ []) ∧ n = K - i ∧ st = S40 N O z z' tl (bfs (dltB N O tl) (fstB N.length) k i) Z i) K (by kernel_rfl) ?_ ?_
 ·refine ⟨0, [nz], rfl, Nat.zero_le _, rfl, fun j h => by omega, rfl, ?_⟩
  simp -implicitDefEqProofs (maxSteps := 4000000) (disch := omega) only [push_cast, c40, S40, O40, Nat.reduceAdd, Nat.reduceSub, Nat.reduceMul, Nat.reduceBEq, Int.reduceToNat, Int.reduceNeg, Int.reduceLE, Int.reduceLT, Int.reduceBEq, Int.reduceBNe, Int.reduceEq, eq_self, reduceCtorEq]
  simp [bfs, placeL, placeC, kMap, mputK, mfindK, List.range_succ]
 rintro n g st ⟨i, Z, rfl, hi, hZ, hnd, rfl, rfl⟩
 have hinv := bfs_inv (δ := dltB N O tl) (s0 := fstB N.length) (k := k) i
 have hbd := sea_len hV h7' hinv
 have hin := ent_ok hV hinv
 have hmore : More (fstB N.length) (bfs (dltB N O tl) (fstB N.length) k i) (finB N O tl k K) := by
  have := bfs_more (δ := dltB N O tl) (s0 := fstB N.length) (k := k) (i := i) (K - i)
  rwa [show i + (K - i) = K by omega] at this
 have hdone := fin_done (tl := tl) hV h7' hK
 rw [← hK] at hbd
 generalize hq0 : bfs (dltB N O tl) (fstB N.length) k i = q0 at *
 simp -implicitDefEqProofs (maxSteps := 4000000) (disch := omega) only [push_cast, c40, S40, O40, placeL_len, Nat.reduceAdd, Nat.reduceSub, Nat.reduceMul, Nat.reduceBEq, Int.reduceToNat, Int.reduceNeg, Int.reduceLE, Int.reduceLT, Int.reduceBEq, Int.reduceBNe, Int.reduceEq, eq_self, reduceCtorEq]
 refine ⟨fun hlt => ⟨hlt, ?_⟩, fun hge => ?_⟩
 ·have e := placeL_get (Z := Z) (d := fstB N.length) hlt
  have hin1 := hin i hlt
  generalize hB : q0.1.getD i (fstB N.length) = B at *
  simp -implicitDefEqProofs (maxSteps := 4000000) (disch := omega) only [push_cast, c40, e, Nat.reduceAdd, Nat.reduceSub, Nat.reduceMul, Nat.reduceBEq, Int.reduceToNat, Int.reduceNeg, Int.reduceLE, Int.reduceLT, Int.reduceBEq, Int.reduceBNe, Int.reduceEq, eq_self, reduceCtorEq]
  have htree := hinv.tree
  have hsl := hinv.len
  refine ⟨fun h0 => ?_, fun h0 => ⟨by omega, ?_⟩⟩
  ·refine awp_loop (tyP_ok _) c40 2000 [6, 8, 9] (fun n g st => ∃ (j : Nat) (o : List Int), g = (false, 0) ∧ j < q0.1.length ∧ n = j ∧ o ++ upW q0.2 (j + 1) j = upW q0.2 (i + 1) i ∧ o.length + j ≤ i ∧ st = ⟨112, [(6, .own 0), (8, .int .i64 j), (9, .own 1)], [.arr (.gen 3 (placeL q0 Z)) ⟨97, false⟩, .arr (.ints .i64 o) ⟨3, false⟩]⟩) i (by kernel_rfl) ?_ ?_
   ·refine ⟨i, [], rfl, hlt, rfl, rfl, by simp, ?_⟩
    simp -implicitDefEqProofs (maxSteps := 4000000) (disch := omega) only [push_cast, c40, Nat.reduceAdd, Nat.reduceSub, Nat.reduceMul, Nat.reduceBEq, Int.reduceToNat, Int.reduceNeg, Int.reduceLE, Int.reduceLT, Int.reduceBEq, Int.reduceBNe, Int.reduceEq, eq_self, reduceCtorEq]
   rintro n g st ⟨j, o, rfl, hj, rfl, ho, hoj, rfl⟩
   have e2 := placeL_get (Z := Z) (d := fstB N.length) hj
   simp -implicitDefEqProofs (maxSteps := 4000000) (disch := omega) only [push_cast, c40, e2, placeL_len, Nat.reduceAdd, Nat.reduceSub, Nat.reduceMul, Nat.reduceBEq, Int.reduceToNat, Int.reduceNeg, Int.reduceLE, Int.reduceLT, Int.reduceBEq, Int.reduceBNe, Int.reduceEq, eq_self, reduceCtorEq]
   refine ⟨hj, fun hge => ?_, fun hlt0 => ?_⟩
   ·rcases htree n (by omega) with h1 | ⟨p, y, h1, h2⟩
    ·omega
    rw [h1]
    refine ⟨hj, by omega, hj, p, h2, p, _, by omega, rfl, ?_, ?_, rfl, rfl⟩
    ·rw [← ho]
     have e3 : upW q0.2 (n + 1) n = (y : Int) :: upW q0.2 n p := by
      simp only [upW]
      rw [h1]
      have h3 : ¬ ((p : Int) < 0) := by omega
      simp only [h3, if_false, Int.toNat_natCast]
     rw [e3, upW_fuel htree n (p + 1) p h2 (by omega) (by omega)]
     simp
    ·simp; omega
   ·have e3 : upW q0.2 (n + 1) n = [] := by simp only [upW]; rw [if_pos hlt0]
    rw [e3, List.append_nil] at ho
    have hfd := sea_found hV hdone (m := i) (Nat.lt_of_lt_of_le hlt hmore.len) (by rw [hmore.l1 i hlt, hB]; exact List.length_eq_zero_iff.1 (by omega)) (fun j hj => by rw [hmore.l1 j (by omega)]; exact hnd j hj (by omega))
    rw [wordOf_more hmore hinv.tree hinv.len hlt, wordOf, ← ho] at hfd
    refine lcallW_eq _ _ _ (f63 _ _ o _ (by omega)) ?_
    simp -implicitDefEqProofs (maxSteps := 4000000) (disch := omega) only [push_cast, c40, Nat.reduceAdd, Nat.reduceSub, Nat.reduceMul, Nat.reduceBEq, Int.reduceToNat, Int.reduceNeg, Int.reduceLE, Int.reduceLT, Int.reduceBEq, Int.reduceBNe, Int.reduceEq, eq_self, reduceCtorEq]
    refine ⟨o.reverse, 0, .inr (.inr (.inr ⟨hv, h7', rfl, by rw [hk]; exact hfd⟩)), .inr ⟨false, rfl, rfl, rfl⟩⟩
  ·rw [hk]
   refine awp_loop (tyP_ok _) c40 2000 [1, 2, 4, 5, 6, 7, 8, 74, 75] (fun n g st => ∃ (x : Nat) (Z' : List Bool), g = (false, 0) ∧ x ≤ k ∧ n = k - x ∧ Z'.length = (inn (dltB N O tl) (fstB N.length) i q0 x).1.length ∧ st = R40 N O z z' tl (inn (dltB N O tl) (fstB N.length) i q0 x) Z' i k x) k (by kernel_rfl) ?_ ?_
   ·refine ⟨0, Z, rfl, by omega, rfl, hZ, ?_⟩
    simp -implicitDefEqProofs (maxSteps := 4000000) (disch := omega) only [push_cast, c40, R40, O40, Nat.reduceAdd, Nat.reduceSub, Nat.reduceMul, Nat.reduceBEq, Int.reduceToNat, Int.reduceNeg, Int.reduceLE, Int.reduceLT, Int.reduceBEq, Int.reduceBNe, Int.reduceEq, eq_self, reduceCtorEq]
    exact ⟨rfl, rfl⟩
   rintro n g st ⟨x, Z', rfl, hx, rfl, hZ', rfl⟩
   obtain ⟨hinv2, hle2⟩ := inn_inv hinv hlt x hx
   have hi2l : i < (inn (dltB N O tl) (fstB N.length) i q0 x).1.length := by omega
   have hlen2 := sea_len hV h7' hinv2
   have hin2 := ent_ok hV hinv2
   have hsl2 := hinv2.len
   have hpx : (inn (dltB N O tl) (fstB N.length) i q0 x).1.getD i (fstB N.length) = B := by
    rw [(inn_more (i := i) hinv.len x).1.l1 i hlt, hB]
   have hold := @inn_old _ _ (dltB N O tl) (fstB N.length) i x q0
   have hnew := @inn_new _ _ (dltB N O tl) (fstB N.length) i x q0
   rw [hpx] at hold hnew
   have e3 := placeL_get (Z := Z') (d := fstB N.length) hi2l
   rw [hpx] at e3
   generalize hq1 : inn (dltB N O tl) (fstB N.length) i q0 x = q1 at *
   have hfw := hin1.1.few hin1.2
   have hS := fun hx => hin1.1.step hV (x := x) hx
   have hT := tot_stpB (N := N) (O := O) x B
   have hnn : nnB q1.1 := fun C hC b hb s hs => by
    obtain ⟨m, hm, rfl⟩ := List.getElem_of_mem hC
    have := (hin2 m hm).1.st b (by simpa [List.getD, hm] using hb) s hs
    omega
   have hby : ∀ C ∈ q1.1, ∀ c ∈ kL C, 0 ≤ c ∧ c ≤ 7 := fun C hC => by
    obtain ⟨m, hm, rfl⟩ := List.getElem_of_mem hC
    have := (ok_dig h7' (hin2 m hm)).1
    simpa [List.getD, hm] using this
   have hkb := kMap_byte hby
   simp -implicitDefEqProofs (maxSteps := 4000000) (disch := omega) only [push_cast, c40, R40, O40, placeL_len, e3, Nat.reduceAdd, Nat.reduceSub, Nat.reduceMul, Nat.reduceBEq, Int.reduceToNat, Int.reduceNeg, Int.reduceLE, Int.reduceLT, Int.reduceBEq, Int.reduceBNe, Int.reduceEq, eq_self, reduceCtorEq]
   refine ⟨fun hxk => ⟨hi2l, ?_⟩, fun hxk => ?_⟩
   ·have hxr : 0 ≤ (x : Int) ∧ (x : Int) < k := ⟨by omega, by omega⟩
    have hS2 := hS hxr
    have hSd := ok_dig h7' ⟨hS2, Nat.le_trans hT hin1.2⟩
    refine callW_rel (f39 N O z z' (Z'.getD i false) B x k hV hxr (fun b hb => ⟨by have := hfw.2 b hb; omega, hin1.1.st b hb⟩) (by have := hfw.1; omega)) ?_
    rintro R O' ⟨nz4, rfl, rfl⟩
    simp -implicitDefEqProofs (maxSteps := 4000000) (disch := omega) only [push_cast, c40, Nat.reduceAdd, Nat.reduceSub, Nat.reduceMul, Nat.reduceBEq, Int.reduceToNat, Int.reduceNeg, Int.reduceLE, Int.reduceLT, Int.reduceBEq, Int.reduceBNe, Int.reduceEq, eq_self, reduceCtorEq]
    refine callW_eq _ _ (f62 (stpB N O B x) nz4 (by omega) (by have := tot_two hS2.two; omega) (fun b hb s hs => by have := hS2.st b hb s hs; omega)) ?_
    simp -implicitDefEqProofs (maxSteps := 4000000) (disch := omega) only [push_cast, c40, Nat.reduceAdd, Nat.reduceSub, Nat.reduceMul, Nat.reduceBEq, Int.reduceToNat, Int.reduceNeg, Int.reduceLE, Int.reduceLT, Int.reduceBEq, Int.reduceBNe, Int.reduceEq, eq_self, reduceCtorEq]
    rw [strK_key hSd.1]
    have hDn : ∀ b ∈ stpB N O B x, ∀ s ∈ b, 0 ≤ s := fun b hb s hs => (hS2.st b hb s hs).1
    have hgD := kMap_get hDn hnn
    have hnm : dltB N O tl B x = stpB N O B x → mgetKB (kL (stpB N O B x)) (kMap q1.1) = false → ¬ dltB N O tl B x ∈ q1.1 := fun h1 h2 => by
     rw [hgD] at h2; rw [h1]; exact of_decide_eq_false h2
    have hme : dltB N O tl B x = stpB N O B x → mgetKB (kL (stpB N O B x)) (kMap q1.1) = true → dltB N O tl B x ∈ q1.1 := fun h1 h2 => by
     rw [hgD] at h2; rw [h1]; exact of_decide_eq_true h2
    have hagg : ∀ (r : List AV), r ∈ [[AV.pay (.rows (stpB N O B x)) nz4, .int .i64 i, .int .i64 x]] → ∀ v ∈ r, AV.one v = true := fun r hr v hv => by
     simp only [List.mem_singleton] at hr
     subst hr
     simp only [List.mem_cons, List.not_mem_nil, or_false] at hv
     rcases hv with rfl | rfl | rfl <;> rfl
    refine ⟨fun hw => ?_, fun hw => ⟨fun ht => ?_, fun ht => ?_⟩⟩
    ·have hdl : dltB N O tl B x = stpB N O B x := by unfold dltB; rw [if_neg (by rw [hw]; simp)]
     exact ⟨hkb, fun hg => ⟨hkb, ⟨hagg, by rw [placeL_len]; omega⟩, k - (x + 1), by omega, x + 1, Z' ++ [nz4], by omega, rfl, by rw [hnew (hnm hdl hg)]; simp [hZ'], by omega, by rw [hnew (hnm hdl hg), hdl]; exact placeL_app hsl2 hZ', by rw [hnew (hnm hdl hg), hdl]; exact kMap_put hDn hnn (by rw [← hdl]; exact hnm hdl hg)⟩, fun hg => ⟨k - (x + 1), by omega, x + 1, Z', by omega, rfl, by rw [hold (hme hdl hg)]; exact hZ', by omega, by rw [hold (hme hdl hg)], by rw [hold (hme hdl hg)]⟩⟩
    ·have hdl : dltB N O tl B x = stpB N O B x := by unfold dltB; rw [if_neg (by rw [ht]; simp)]
     exact ⟨hkb, fun hg => ⟨hkb, ⟨hagg, by rw [placeL_len]; omega⟩, k - (x + 1), by omega, x + 1, Z' ++ [nz4], by omega, rfl, by rw [hnew (hnm hdl hg)]; simp [hZ'], by omega, by rw [hnew (hnm hdl hg), hdl]; exact placeL_app hsl2 hZ', by rw [hnew (hnm hdl hg), hdl]; exact kMap_put hDn hnn (by rw [← hdl]; exact hnm hdl hg)⟩, fun hg => ⟨k - (x + 1), by omega, x + 1, Z', by omega, rfl, by rw [hold (hme hdl hg)]; exact hZ', by omega, by rw [hold (hme hdl hg)], by rw [hold (hme hdl hg)]⟩⟩
    ·have hdl : dltB N O tl B x = B := by unfold dltB; rw [if_pos ⟨ht, hw⟩]
     have hmem : dltB N O tl B x ∈ q1.1 := by
      rw [hdl, ← hpx]
      exact getD_mem'' hi2l
     exact ⟨k - (x + 1), by omega, x + 1, Z', by omega, rfl, by rw [hold hmem]; exact hZ', by omega, by rw [hold hmem], by rw [hold hmem]⟩
   ·obtain rfl : x = k := by omega
    have hb2 : q1 = bfs (dltB N O tl) (fstB N.length) x (i + 1) := by rw [← hq1, bfs, hq0, if_pos hlt]
    have hl1 := (inn_more (δ := dltB N O tl) (s0 := fstB N.length) (i := i) hinv.len x).1.l1
    rw [hq1] at hl1
    rw [hb2] at hl1 hpx hZ' ⊢
    refine ⟨K - (i + 1), by omega, i + 1, Z', by omega, hZ', fun j hj hjl => ?_, rfl, by omega, rfl, rfl⟩
    by_cases hji : j < i
    ·rw [hl1 j (by omega)]; exact hnd j hji (by omega)
    ·obtain rfl : j = i := by omega
     rw [hpx]
     intro h; rw [h] at h0; exact h0 rfl
 ·refine ⟨[], 4, .inr (.inr (.inl ⟨hv, h7', rfl, rfl, fun v hvv => ?_⟩)), .inl ⟨rfl, rfl⟩⟩
  rw [hk] at hvv
  have hfin : finB N O tl k K = q0 := by
   have := bfs_stop (δ := dltB N O tl) (s0 := fstB N.length) (k := k) (i := i) (by rw [hq0]; omega) (K - i)
   rw [show i + (K - i) = K by omega, hq0] at this
   exact this
  rw [hfin] at hdone
  exact sea_none hV hdone (fun j hj => hnd j (by omega) hj) v hvv
end Go.AM
end

section
namespace Go.AM
open Go Go.Proofs Go.Sort
def c16 : VCfg := ⟨⟨[], [], [], [0, 1, 2, 3]⟩, [], [], []⟩
theorem f16 (N O : List (List Int)) (z z' : Bool) (hl : N.length ≤ 4611686018427387904) (hl2 : ∀ r ∈ N, r.length ≤ 4611686018427387904) (ho : O.length ≤ 4611686018427387904) (ho2 : ∀ r ∈ O, r.length ≤ 4611686018427387904) :
  ACall Tryz.prog 16 [.agg [.pay (.rows (N)) (z), .pay (.rows (O)) (z')]] (fun r objs => ∃ w e nz, SeaR N O true w e ∧ r = .tup [.pay (.ints .i64 w) nz, .int .i64 e] ∧ objs = []) := by
 refine acall_intro (tyP_ok _) c16 2000 [.tmp 2, .tmp 3] Tryz.func16 rfl (by rfl) rfl (by kernel_rfl) ?_
 unfold Tryz.f16
 simp -implicitDefEqProofs (maxSteps := 4000000) (disch := omega) only [push_cast, c16, Nat.reduceAdd, Nat.reduceSub, Nat.reduceMul, Nat.reduceBEq, Int.reduceToNat, Int.reduceNeg, Int.reduceLE, Int.reduceLT, Int.reduceBEq, Int.reduceBNe, Int.reduceEq, eq_self, reduceCtorEq]
 refine callW_rel (f40 N O z z' true hl hl2 ho ho2) ?_
 rintro R O' ⟨w, e, nz, h, rfl, rfl⟩
 simp -implicitDefEqProofs (maxSteps := 4000000) (disch := omega) only [push_cast, c16, Nat.reduceAdd, Nat.reduceSub, Nat.reduceMul, Nat.reduceBEq, Int.reduceToNat, Int.reduceNeg, Int.reduceLE, Int.reduceLT, Int.reduceBEq, Int.reduceBNe, Int.reduceEq, eq_self, reduceCtorEq]
 exact ⟨w, e, nz, h, ⟨rfl, rfl⟩, rfl⟩
theorem eb {k : Nat} {N O : List (List Int)} (h : VM N O k) : (N.length ≤ 4611686018427387904 ∧ ∀ r ∈ N, r.length ≤ 4611686018427387904) ∧ O.length ≤ 4611686018427387904 ∧ ∀ r ∈ O, r.length ≤ 4611686018427387904 := by
 have h1 := h.v.n2
 have h2 := h.v.k2
 have h3 := h.ol
 exact ⟨⟨by omega, fun r hr => by have := (h.v.row r hr).1; omega⟩, by omega, fun r hr => by have := (h.orow r hr).1; omega⟩
def eN : List (List Int) := [[1, 0], [0, 1]]
def eO2 : List (List Int) := [[0, 1], [0, 0]]
def e1N : List (List Int) := [[1], [0]]
def e2N : List (List Int) := [[0], [0]]
theorem eV2 : VM eN eO2 2 := ⟨⟨by decide, by decide, by decide, by decide, by decide⟩, by decide, by decide⟩
theorem e1V : VM e1N e2N 1 := ⟨⟨by decide, by decide, by decide, by decide, by decide⟩, by decide, by decide⟩
theorem e2V : VM e2N e2N 1 := ⟨⟨by decide, by decide, by decide, by decide, by decide⟩, by decide, by decide⟩
theorem eTel : telW eN eO2 [1] := fun s t hs ht h => by
 have h1 : s = 0 ∨ s = 1 := by have : eN.length = 2 := rfl; omega
 have h2 : t = 0 ∨ t = 1 := by have : eN.length = 2 := rfl; omega
 rcases h1 with rfl | rfl <;> rcases h2 with rfl | rfl
 ·rfl
 ·exact absurd h (by decide)
 ·exact absurd h (by decide)
 ·rfl
theorem eHom : homW eN eO2 [1] := fun s t hs ht h => by rw [eTel s t hs ht h]
theorem e2Hom : homW e2N e2N [0] := fun s t hs ht _ => by
 have h1 : s = 0 ∨ s = 1 := by have : e2N.length = 2 := rfl; omega
 have h2 : t = 0 ∨ t = 1 := by have : e2N.length = 2 := rfl; omega
 rcases h1 with rfl | rfl <;> rcases h2 with rfl | rfl <;> decide
theorem e1No : ¬ allD e1N e2N 1 := fun h => by
 obtain ⟨w, hw, hd⟩ := h 0 1 (by decide) (by decide) (by decide)
 have key : ∀ w : List Int, (∀ c ∈ w, 0 ≤ c ∧ c < ((1 : Nat) : Int)) → (outsG e1N e2N 0 w = outsG e1N e2N 1 w) ∧ ((leadG e1N 0 w = 0 ∧ leadG e1N 1 w = 1) ∨ (leadG e1N 0 w = 1 ∧ leadG e1N 1 w = 0)) := by
  refine snocRec (fun _ => ⟨rfl, .inl ⟨rfl, rfl⟩⟩) fun w x ih h => ?_
  obtain ⟨i1, i2⟩ := ih fun c hc => h c (by simp [hc])
  have hx := h x (by simp)
  obtain rfl : x = 0 := by omega
  rw [outs_snoc, outs_snoc, leadG_snoc, leadG_snoc, i1]
  rcases i2 with ⟨a, b⟩ | ⟨a, b⟩
  ·rw [a, b]; exact ⟨rfl, .inr ⟨by decide, by decide⟩⟩
  ·rw [a, b]; exact ⟨rfl, .inl ⟨by decide, by decide⟩⟩
 obtain ⟨k1, k2⟩ := key w hw
 rcases hd with hd | ⟨_, hd⟩
 ·exact hd k1
 ·have hd' : leadG e1N 0 w = leadG e1N 1 w := hd
  omega
theorem e2No (w : List Int) (hw : ∀ c ∈ w, 0 ≤ c ∧ c < ((1 : Nat) : Int)) : ¬ telW e2N e2N w := fun h => by
 have e : outsG e2N e2N 0 w = outsG e2N e2N 1 w := by
  cases w with
  | nil => rfl
  | cons x w =>
   have hx := hw x (by simp)
   obtain rfl : x = 0 := by omega
   rfl
 have := h 0 1 (by decide) (by decide) e
 omega
theorem askE_ok {N O : List (List Int)} {k : Nat} (hV : VM N O k) {w : List Int} (hw : ∀ x ∈ w, 0 ≤ x ∧ x < (k : Int)) (hl : w.length ≤ 40000) : askE N O w = 0 := by
 have h1 : wordB (N.getD 0 []).length w = true := wordB_iff.2 ⟨by omega, by rw [hV.k0]; exact hw⟩
 unfold askE
 rw [if_neg (by rw [hV.ok]; simp), if_neg (by rw [h1]; simp)]
theorem awk_Homes : ACall Tryz.prog 12 [.agg [.pay (.rows (eN)) (false), .pay (.rows (eO2)) (false)], .pay (.ints .i64 [1]) false] (fun r objs => r = .tup [.bool true, .int .i64 0] ∧ objs = []) := by
 have hb := eb eV2
 have := f12 eN eO2 false false false [1] hb.1.1 hb.1.2 hb.2.1 hb.2.2 (by decide)
 rwa [askE_ok eV2 (by decide) (by decide), (homB_iff eV2 (by decide)).2 eHom] at this
theorem awk_Tells : ACall Tryz.prog 14 [.agg [.pay (.rows (eN)) (false), .pay (.rows (eO2)) (false)], .pay (.ints .i64 [1]) false] (fun r objs => r = .tup [.bool true, .int .i64 0] ∧ objs = []) := by
 have hb := eb eV2
 have := f14 eN eO2 false false false [1] hb.1.1 hb.1.2 hb.2.1 hb.2.2 (by decide)
 rwa [askE_ok eV2 (by decide) (by decide), (telB_iff eV2 (by decide)).2 eTel] at this
theorem awk_Homes2 : ACall Tryz.prog 12 [.agg [.pay (.rows (e2N)) (false), .pay (.rows (e2N)) (false)], .pay (.ints .i64 [0]) false] (fun r objs => r = .tup [.bool true, .int .i64 0] ∧ objs = []) := by
 have hb := eb e2V
 have := f12 e2N e2N false false false [0] hb.1.1 hb.1.2 hb.2.1 hb.2.2 (by decide)
 rwa [askE_ok e2V (by decide) (by decide), (homB_iff e2V (by decide)).2 e2Hom] at this
theorem awk_Home : ACall Tryz.prog 15 [.agg [.pay (.rows (e1N)) (false), .pay (.rows (e2N)) (false)]] (fun r objs => ∃ nz, r = .tup [.pay (.ints .i64 []) nz, .int .i64 4] ∧ objs = []) := by
 have hb := eb e1V
 refine (f15 e1N e2N false false hb.1.1 hb.1.2 hb.2.1 hb.2.2).mono ?_
 rintro r objs ⟨w, e, nz, ⟨h, _⟩ | ⟨_, _, rfl, rfl⟩ | ⟨_, h, _⟩, rfl, rfl⟩
 ·rw [e1V.ok] at h; cases h
 ·exact ⟨nz, rfl, rfl⟩
 ·exact absurd h e1No
theorem awk_Telling : ACall Tryz.prog 16 [.agg [.pay (.rows (e2N)) (false), .pay (.rows (e2N)) (false)]] (fun r objs => ∃ nz, r = .tup [.pay (.ints .i64 []) nz, .int .i64 4] ∧ objs = []) := by
 have hb := eb e2V
 refine (f16 e2N e2N false false hb.1.1 hb.1.2 hb.2.1 hb.2.2).mono ?_
 rintro r objs ⟨w, e, nz, ⟨h, _⟩ | ⟨_, h, _⟩ | ⟨_, _, rfl, rfl, _⟩ | ⟨_, _, _, hw, ho, _⟩, rfl, rfl⟩
 ·rw [e2V.ok] at h; cases h
 ·exact absurd h (by decide)
 ·exact ⟨nz, rfl, rfl⟩
 ·exact absurd ho (e2No w hw)
def c5 : VCfg := ⟨⟨[], [], [], [0, 1, 2, 3, 4, 5, 6, 8, 9, 10, 12]⟩, [], [], []⟩
set_option maxHeartbeats 4000000 in
set_option maxRecDepth 100000 in
theorem f5 : ACall Tryz.prog 5 [] (fun r objs => r = .bool true ∧ objs = []) := by
 refine acall_intro (tyP_ok _) c5 2000 [.tmp 0] Tryz.func5 rfl (by rfl) rfl (by kernel_rfl) ?_
 unfold Tryz.f5
 simp -implicitDefEqProofs (maxSteps := 4000000) (disch := omega) only [push_cast, c5, Nat.reduceAdd, Nat.reduceSub, Nat.reduceMul, Nat.reduceBEq, Int.reduceToNat, Int.reduceNeg, Int.reduceLE, Int.reduceLT, Int.reduceBEq, Int.reduceBNe, Int.reduceEq, eq_self, reduceCtorEq]
 refine callW_eq _ _ (f13) ?_
 simp -implicitDefEqProofs (maxSteps := 4000000) (disch := omega) only [push_cast, c5, Nat.reduceAdd, Nat.reduceSub, Nat.reduceMul, Nat.reduceBEq, Int.reduceToNat, Int.reduceNeg, Int.reduceLE, Int.reduceLT, Int.reduceBEq, Int.reduceBNe, Int.reduceEq, eq_self, reduceCtorEq]
 refine callW_eq _ _ (awk_Homes) ?_
 simp -implicitDefEqProofs (maxSteps := 4000000) (disch := omega) only [push_cast, c5, Nat.reduceAdd, Nat.reduceSub, Nat.reduceMul, Nat.reduceBEq, Int.reduceToNat, Int.reduceNeg, Int.reduceLE, Int.reduceLT, Int.reduceBEq, Int.reduceBNe, Int.reduceEq, eq_self, reduceCtorEq]
 refine callW_eq _ _ (f13) ?_
 simp -implicitDefEqProofs (maxSteps := 4000000) (disch := omega) only [push_cast, c5, Nat.reduceAdd, Nat.reduceSub, Nat.reduceMul, Nat.reduceBEq, Int.reduceToNat, Int.reduceNeg, Int.reduceLE, Int.reduceLT, Int.reduceBEq, Int.reduceBNe, Int.reduceEq, eq_self, reduceCtorEq]
 refine callW_eq _ _ (awk_Tells) ?_
 simp -implicitDefEqProofs (maxSteps := 4000000) (disch := omega) only [push_cast, c5, Nat.reduceAdd, Nat.reduceSub, Nat.reduceMul, Nat.reduceBEq, Int.reduceToNat, Int.reduceNeg, Int.reduceLE, Int.reduceLT, Int.reduceBEq, Int.reduceBNe, Int.reduceEq, eq_self, reduceCtorEq]
 refine callW_rel (awk_Home) ?_
 rintro R O ⟨nz, rfl, rfl⟩
 simp -implicitDefEqProofs (maxSteps := 4000000) (disch := omega) only [push_cast, c5, Nat.reduceAdd, Nat.reduceSub, Nat.reduceMul, Nat.reduceBEq, Int.reduceToNat, Int.reduceNeg, Int.reduceLE, Int.reduceLT, Int.reduceBEq, Int.reduceBNe, Int.reduceEq, eq_self, reduceCtorEq]
 refine callW_eq _ _ (awk_Homes2) ?_
 simp -implicitDefEqProofs (maxSteps := 4000000) (disch := omega) only [push_cast, c5, Nat.reduceAdd, Nat.reduceSub, Nat.reduceMul, Nat.reduceBEq, Int.reduceToNat, Int.reduceNeg, Int.reduceLE, Int.reduceLT, Int.reduceBEq, Int.reduceBNe, Int.reduceEq, eq_self, reduceCtorEq]
 refine callW_rel (awk_Telling) ?_
 rintro R O ⟨nz2, rfl, rfl⟩
 simp -implicitDefEqProofs (maxSteps := 4000000) (disch := omega) only [push_cast, c5, Nat.reduceAdd, Nat.reduceSub, Nat.reduceMul, Nat.reduceBEq, Int.reduceToNat, Int.reduceNeg, Int.reduceLE, Int.reduceLT, Int.reduceBEq, Int.reduceBNe, Int.reduceEq, eq_self, reduceCtorEq]
end Go.AM
end

section
namespace Go.AM
open Go Go.Proofs Go.Sort
theorem nb {N O : List (List Int)} (h : (N.length ≤ 100 ∧ ∀ r ∈ N, r.length ≤ 100) ∧ O.length ≤ 100 ∧ ∀ r ∈ O, r.length ≤ 100) : (N.length ≤ 4611686018427387904 ∧ ∀ r ∈ N, r.length ≤ 4611686018427387904) ∧ O.length ≤ 4611686018427387904 ∧ ∀ r ∈ O, r.length ≤ 4611686018427387904 :=
 ⟨⟨by omega, fun r hr => by have := h.1.2 r hr; omega⟩, by omega, fun r hr => by have := h.2.2 r hr; omega⟩
end Go.AM
end

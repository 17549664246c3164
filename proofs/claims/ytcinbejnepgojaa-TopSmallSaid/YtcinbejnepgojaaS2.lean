/-
  Contracts of the search, of Shortest and Rank and of TopShortest; conditions in each statement.
-/
import Derived.Test.YtcinbejnepgojaaS1
set_option linter.unusedVariables false
set_option linter.unusedSimpArgs false
set_option linter.unusedSectionVars false

/-! text Ta4 -/
section
namespace Go.AM
open Go Go.Proofs
/- slices.Reverse[[]int,int] -/
def c22 : VCfg := ⟨⟨[], [], [], [0, 2, 3, 9]⟩, [(3, (.op 0 .loose (.op 1 .loose (.op 2 .strict (.op 3 .strict (.op 4 .loose (.op 5 .loose (.op 6 .loose (.op 7 .loose (.op 8 .strict (.op 9 .strict (.op 10 .strict (.op 11 .loose (.op 12 .loose (.op 13 .eff (.op 14 .loose (.op 15 .eff .nil)))))))))))))))))], [], []⟩
def revS (l : List Int) (i : Nat) : List Int := (List.range l.length).map fun p => if p < i ∨ l.length - 1 - p < i then l.getD (l.length - 1 - p) 0 else l.getD p 0
theorem revS_len (l : List Int) (i : Nat) : (revS l i).length = l.length := by simp [revS]
theorem revS_get (l : List Int) (i p : Nat) (h : p < l.length) : (revS l i).getD p 0 = if p < i ∨ l.length - 1 - p < i then l.getD (l.length - 1 - p) 0 else l.getD p 0 := by
  simp [revS, List.getD, h]
theorem revS_zero (l : List Int) : revS l 0 = l := ints_eq (revS_len l 0) fun j hj => by
  rw [revS_len] at hj
  rw [revS_get l 0 j hj, if_neg (by omega)]
theorem revS_step (l : List Int) (i : Nat) (h : i < l.length / 2) : ((revS l i).set i ((revS l i).getD (l.length - 1 - i) 0)).set (l.length - 1 - i) ((revS l i).getD i 0) = revS l (i + 1) := ints_eq (by simp [revS_len]) fun p hp => by
  simp only [List.length_set, revS_len] at hp
  rw [revS_get l (i + 1) p hp]
  simp only [List.getD_eq_getElem?_getD, List.getElem?_set]
  simp only [← List.getD_eq_getElem?_getD, List.length_set, revS_len]
  by_cases h1 : l.length - 1 - i = p
  · subst h1
    rw [if_pos rfl, if_pos hp]
    simp only [Option.getD_some]
    rw [revS_get l i i (by omega), if_neg (by omega), if_pos (by omega)]
    congr 1; omega
  · rw [if_neg h1]
    by_cases h2 : i = p
    · subst h2
      rw [if_pos rfl, if_pos (by omega)]
      simp only [Option.getD_some]
      rw [revS_get l i _ (by omega), if_neg (by omega), if_pos (by omega)]
    · rw [if_neg h2, ← List.getD_eq_getElem?_getD, revS_get l i p hp]
      by_cases h3 : p < i ∨ l.length - 1 - p < i
      · rw [if_pos h3, if_pos (by omega)]
      · rw [if_neg h3, if_neg (by omega)]
theorem revS_end (l : List Int) (i : Nat) (h : l.length ≤ 2 * i + 1) : revS l i = l.reverse := ints_eq (by simp [revS_len]) fun p hp => by
  rw [revS_len] at hp
  rw [revS_get l i p hp]
  have e : l.reverse.getD p 0 = l.getD (l.length - 1 - p) 0 := by simp [List.getD, List.getElem?_reverse hp]
  rw [e]
  split
  · rfl
  · congr 1; omega
theorem f22 (y : Yc) (g : Gh) (l : List Int) (ai : AI) (hl : l.length ≤ 4611686018427387904) :
    GCall Try.prog y 22 g [.own 0] [.arr (.ints .i64 l) ai] (fun g' r A O => g' = g ∧ r = .tup [] ∧ A = [.own 0] ∧ O = [.arr (.ints .i64 l.reverse) ai]) := by
  refine gcall_intro (tyP_ok _) c22 2000 [] [0] Try.func22 rfl (by rfl) rfl (by rfl) (by kernel_rfl) (by kernel_rfl) ?_
  unfold Try.f22
  simp (config := {implicitDefEqProofs := false, maxSteps := 4000000}) (disch := omega) only [push_cast, c22, Nat.reduceAdd, Nat.reduceSub, Nat.reduceMul, Nat.reduceBEq, Int.reduceToNat, Int.reduceNeg, Int.reduceLE, Int.reduceLT, reduceCtorEq]
  refine awp_upto (tyP_ok _) c22 2000 [0, 2, 3] (l.length / 2) (fun _ => True) (fun i => ⟨28, [(0, .own 0), (2, .int .i64 i), (3, .int .i64 ((l.length : Int) - 1 - i))], [.arr (.ints .i64 (revS l i)) ai]⟩) (by kernel_rfl) ?_ ?_ ?_
  · simp (config := {implicitDefEqProofs := false, maxSteps := 4000000}) (disch := omega) only [push_cast, c22, Nat.reduceAdd, Nat.reduceSub, Nat.reduceMul, Nat.reduceBEq, Int.reduceToNat, Int.reduceNeg, Int.reduceLE, Int.reduceLT, reduceCtorEq]
    rw [revS_zero]
    exact ⟨by omega, rfl⟩
  · trivial
  intro i hi _
  simp (config := {implicitDefEqProofs := false, maxSteps := 4000000}) (disch := omega) only [push_cast, c22, Nat.reduceAdd, Nat.reduceSub, Nat.reduceMul, Nat.reduceBEq, Int.reduceToNat, Int.reduceNeg, Int.reduceLE, Int.reduceLT, reduceCtorEq]
  refine ⟨fun h => ?_, fun h => revS_end l i (by omega)⟩
  have e1 : ((l.length : Int) - 1 - (i : Int)).toNat = l.length - 1 - i := by omega
  rw [e1, List.length_set, revS_len, revS_step l i (by omega)]
  exact ⟨by omega, by omega, by omega, by omega, by omega, by omega, rfl⟩
/- mizmaze/short.sets$1$1 -/
def c21 : VCfg := ⟨⟨[], [], [4], [0, 1, 3, 4, 10]⟩, [], [22], [25]⟩
def stp (S : List (Int × Int)) : List (List AV) := S.map fun p => [.int .i64 p.1, .int .i64 p.2]
theorem stp_get {S : Stp} {i : Nat} (h : i < S.length) : (stp S).getD i [] = [.int .i64 (S.getD i (-1, 0)).1, .int .i64 (S.getD i (-1, 0)).2] := by
  simp [stp, List.getD, h]
theorem stp_len (S : Stp) : (stp S).length = S.length := by simp [stp]
theorem f21 (S : Stp) (i : Nat) (z : Bool) (hi : i < S.length) (ht : Tree S) (hl : S.length ≤ 65536) :
    ACall Try.prog 21 [.int .i64 i, .fref [.pay (.gen 2 (stp S)) z]] (fun r objs => r = .own 0 ∧ objs = [.arr (.ints .i64 (wordOf S i)) ⟨3, true⟩]) := by
  refine acall_intro (tyP_ok _) c21 2000 [.tmp 3] Try.func21 rfl (by rfl) rfl (by kernel_rfl) ?_
  unfold Try.f21
  simp (config := {implicitDefEqProofs := false, maxSteps := 4000000}) (disch := omega) only [push_cast, c21, Nat.reduceAdd, Nat.reduceSub, Nat.reduceMul, Nat.reduceBEq, Int.reduceToNat, Int.reduceNeg, Int.reduceLE, Int.reduceLT, reduceCtorEq]
  refine awp_loop (tyP_ok _) c21 2000 [0, 1, 3, 4] (fun n g st => g = (false, 0) ∧ ∃ (j : Nat) (o : List Int), j < S.length ∧ n = j ∧ o ++ upW S (j + 1) j = upW S (i + 1) i ∧ o.length + j ≤ i ∧ st = ⟨27, [(0, .int .i64 j), (1, .fref [.pay (.gen 2 (stp S)) z]), (3, .pay (.ints .i64 []) true), (4, .own 0)], [.arr (.ints .i64 o) ⟨3, true⟩]⟩) i (by kernel_rfl) ⟨rfl, i, [], hi, rfl, rfl, by simp, rfl⟩ ?_
  rintro j g st ⟨rfl, j', o, hj, hjn, ho, hoj, rfl⟩
  obtain rfl : j = j' := hjn
  have e := stp_get hj
  simp (config := {implicitDefEqProofs := false, maxSteps := 4000000}) (disch := omega) only [push_cast, c21, e, stp_len, Nat.reduceAdd, Nat.reduceSub, Nat.reduceMul, Nat.reduceBEq, Int.reduceToNat, Int.reduceNeg, Int.reduceLE, Int.reduceLT, reduceCtorEq]
  refine ⟨hj, fun hge => ?_, fun hlt => ?_⟩
  · rcases ht j hj with h1 | ⟨p, x, h1, h2⟩
    · omega
    rw [h1]
    refine ⟨hj, by omega, hj, p, h2, p, _, by omega, rfl, ?_, ?_, rfl, rfl⟩
    · rw [← ho]
      have e2 : upW S (j + 1) j = (x : Int) :: upW S j p := by
        simp only [upW]
        rw [h1]
        have h3 : ¬ ((p : Int) < 0) := by omega
        simp only [h3, if_false, Int.toNat_natCast]
      rw [e2, upW_fuel ht j (p + 1) p h2 (by omega) (by omega)]
      simp
    · simp; omega
  · refine lcallW_eq _ _ _ (f22 _ _ o _ (by omega)) ?_
    simp (config := {implicitDefEqProofs := false, maxSteps := 4000000}) (disch := omega) only [push_cast, c21, Nat.reduceAdd, Nat.reduceSub, Nat.reduceMul, Nat.reduceBEq, Int.reduceToNat, Int.reduceNeg, Int.reduceLE, Int.reduceLT, reduceCtorEq]
    have e2 : upW S (j + 1) j = [] := by simp only [upW]; rw [if_pos hlt]
    rw [e2, List.append_nil] at ho
    rw [ho]; rfl
end Go.AM
end

/-! text Ta5 -/
section
namespace Go.AM
open Go Go.Proofs
/- mizmaze/short.sets$1 -/
def c20 : VCfg := ⟨⟨[], [], [], [0, 1, 3, 4, 5, 6, 7, 8, 9, 10, 27, 39, 41, 42, 43, 55]⟩, [(7, (.op 0 .loose (.op 1 .strict (.op 2 .strict (.op 3 .strict (.op 4 .loose (.op 5 .strict (.op 6 .strict (.op 7 .eff (.op 8 .eff (.op 9 .loose .nil))))))))))), (11, (.op 0 .loose (.op 1 .loose (.op 2 .loose (.op 3 .loose (.op 4 .loose (.op 5 .loose (.op 6 .eff (.op 7 .loose .nil))))))))), (14, (.op 0 .strict (.op 1 .strict (.op 5 .strict (.op 6 .strict (.op 7 .strict (.alt (.op 2 .eff (.alt (.op 3 .eff (.alt (.op 4 .eff (.op 8 .eff (.op 9 .eff (.op 10 .loose (.op 11 .eff .nil))))) (.op 8 .eff (.op 4 .eff (.op 9 .eff (.op 10 .loose (.op 11 .eff .nil))))))) (.alt (.op 4 .eff (.alt (.op 3 .eff (.op 8 .eff (.op 9 .eff (.op 10 .loose (.op 11 .eff .nil))))) (.op 8 .eff (.op 3 .eff (.op 9 .eff (.op 10 .loose (.op 11 .eff .nil))))))) (.op 8 .eff (.alt (.op 3 .eff (.op 4 .eff (.op 9 .eff (.op 10 .loose (.op 11 .eff .nil))))) (.op 4 .eff (.op 3 .eff (.op 9 .eff (.op 10 .loose (.op 11 .eff .nil)))))))))) (.alt (.op 4 .eff (.alt (.op 2 .eff (.alt (.op 3 .eff (.op 8 .eff (.op 9 .eff (.op 10 .loose (.op 11 .eff .nil))))) (.op 8 .eff (.op 3 .eff (.op 9 .eff (.op 10 .loose (.op 11 .eff .nil))))))) (.op 8 .eff (.op 2 .eff (.op 3 .eff (.op 9 .eff (.op 10 .loose (.op 11 .eff .nil)))))))) (.op 8 .eff (.alt (.op 2 .eff (.alt (.op 3 .eff (.op 4 .eff (.op 9 .eff (.op 10 .loose (.op 11 .eff .nil))))) (.op 4 .eff (.op 3 .eff (.op 9 .eff (.op 10 .loose (.op 11 .eff .nil))))))) (.op 4 .eff (.op 2 .eff (.op 3 .eff (.op 9 .eff (.op 10 .loose (.op 11 .eff .nil))))))))))))))))], [], [38]⟩
def lstA (L : List Nat) : List Int := L.map fun (n : Nat) => (n : Int)
def mapA (L : List Nat) : List (List Int × Bool) := L.map fun (n : Nat) => ([(n : Int)], true)
theorem lstA_get {L : List Nat} {i d : Nat} (h : i < L.length) : (lstA L).getD i 0 = (L.getD i d : Nat) := by simp [lstA, List.getD, h]
theorem lstA_len (L : List Nat) : (lstA L).length = L.length := by simp [lstA]
theorem lstA_app (L : List Nat) (t : Nat) : lstA L ++ [(t : Int)] = lstA (L ++ [t]) := by simp [lstA]
theorem stp_app (S : Stp) (i x : Int) : stp S ++ [[.int .i64 i, .int .i64 x]] = stp (S ++ [(i, x)]) := by simp [stp]
theorem mfind_mapA (t : Nat) : ∀ (L : List Nat) (i : Nat), (mfind (t : Int) (mapA L) i).isSome = decide (t ∈ L) ∧ ∀ r, mfind (t : Int) (mapA L) i = some r → r.2 = true
  | [], i => by simp [mapA, mfind]
  | n :: L, i => by
    have ih := mfind_mapA t L (i + 1)
    simp only [mapA, List.map_cons, mfind, List.getD_cons_zero]
    by_cases h : (t : Int) = (n : Int)
    · have : t = n := by omega
      simp [this]
    · have : t ≠ n := by omega
      simp only [h, decide_false]
      refine ⟨?_, ih.2⟩
      rw [show mfind (t : Int) (List.map (fun (n : Nat) => ([(n : Int)], true)) L) (i + 1) = mfind (t : Int) (mapA L) (i + 1) from rfl, ih.1]
      simp [this]
theorem mget_mapA (t : Nat) (L : List Nat) : mgetB (t : Int) (mapA L) = decide (t ∈ L) := by
  obtain ⟨h1, h2⟩ := mfind_mapA t L 0
  unfold mgetB
  cases h : mfind (t : Int) (mapA L) 0 with
  | none => rw [h] at h1; simpa using h1
  | some r =>
    rw [h] at h1
    have := h2 r h
    obtain ⟨i, b⟩ := r
    simp at this h1
    simp [this, h1]
theorem mput_mapA {t : Nat} {L : List Nat} (h : t ∉ L) : mput (t : Int) true (mapA L) = mapA (L ++ [t]) := by
  obtain ⟨h1, _⟩ := mfind_mapA t L 0
  unfold mput
  cases e : mfind (t : Int) (mapA L) 0 with
  | none => simp [mapA]
  | some r => rw [e] at h1; simp [h] at h1
def dlt (a : List (List Int)) : Nat → Nat → Nat := fun s x => toN a s x a.length
def all (a : List (List Int)) : Nat := 2 ^ a.length - 1
def fin (a : List (List Int)) (k : Nat) : List Nat × Stp := bfs (dlt a) (all a) k 4096
/-- what the search yields -/
def xsS (a : List (List Int)) (k : Nat) : List (List AV) := (List.range (fin a k).1.length).map fun i => [.int .u16 ((fin a k).1.getD i (all a) : Nat), .pay (.ints .i64 (wordOf (fin a k).2 i)) true]
def O20 (q : List Nat × Stp) : List AObj := [.arr (.ints .u16 (lstA q.1)) ⟨44, false⟩, .box [.own 3], .mapB (.int .u16) (mapA q.1), .arr (.gen 2 (stp q.2)) ⟨51, false⟩]
def S20 (l : Nat) (a : List (List Int)) (z : Bool) (q : List Nat × Stp) (i : Nat) : St :=
  ⟨69, [(0, .lit (.func (.yield l) #[] #[])), (1, .fref [.pay (.rows a) z]), (4, .own 0), (5, .ref 1 0), (6, .mapr 2), (7, .clo 21 [.ref 1 0]), (8, .int .i64 i)], O20 q⟩
def R20 (l : Nat) (a : List (List Int)) (z : Bool) (q : List Nat × Stp) (i : Nat) (k : Nat) (x : Nat) : St :=
  ⟨69, [(0, .lit (.func (.yield l) #[] #[])), (1, .fref [.pay (.rows a) z]), (4, .own 0), (5, .ref 1 0), (6, .mapr 2), (7, .clo 21 [.ref 1 0]), (8, .int .i64 i), (41, .int .i64 k), (42, .int .i64 x)], O20 q⟩
theorem all_wrap {a : List (List Int)} (h1 : 1 ≤ a.length) (h : a.length ≤ 12) : IntKind.u16.wrap (IntKind.u16.wrap (1 * 2 ^ min a.length IntKind.u16.bits) - 1) = (all a : Int) := by
  rw [show min a.length IntKind.u16.bits = a.length by simp only [IntKind.bits]; omega]
  unfold all
  have h2 : (2 : Nat) ^ a.length ≤ 2 ^ 12 := Nat.pow_le_pow_right (by omega) h
  have h3 : 2 ≤ (2 : Nat) ^ a.length := by
    have : (2 : Nat) ^ 1 ≤ 2 ^ a.length := Nat.pow_le_pow_right (by omega) h1
    simpa using this
  have e6 : 1 * (2 : Int) ^ a.length = ((2 ^ a.length : Nat) : Int) := by simp
  rw [e6]
  generalize (2 : Nat) ^ a.length = m at *
  simp only [IntKind.wrap, IntKind.signed, IntKind.bits]
  simp
  omega
theorem ent_lt {a : List (List Int)} {k : Nat} (hv : Vld a k) {i x : Nat} {q : List Nat × Stp} (h : BInv (dlt a) (all a) k i x q) : ∀ m, m < q.1.length → q.1.getD m (all a) < 2 ^ a.length := fun m hm => by
  rcases h.word hm with ⟨rfl, _⟩ | ⟨j, y, _, h2, _, h4, _⟩
  · rw [h.zero]
    have := Nat.two_pow_pos a.length
    unfold all; omega
  · rw [h4]
    exact toN_lt hv _ _ h2 _ (Nat.le_refl _)
theorem ent_len {a : List (List Int)} {k : Nat} (hv : Vld a k) {i x : Nat} {q : List Nat × Stp} (h : BInv (dlt a) (all a) k i x q) (h12 : a.length ≤ 12) : q.1.length ≤ 4096 := by
  have h1 := pigeon (2 ^ a.length) q.1.length (fun m => q.1.getD m (all a)) (ent_lt hv h) h.nodup
  have h2 : (2 : Nat) ^ a.length ≤ 2 ^ 12 := Nat.pow_le_pow_right (by omega) h12
  omega
theorem f20 (l : Nat) (a : List (List Int)) (z : Bool) (k : Nat) (hv : Vld a k) (h12 : a.length ≤ 12) :
    GCall Try.prog ⟨l, xsS a k⟩ 20 (false, 0) [.lit (.func (.yield l) #[] #[]), .fref [.pay (.rows a) z]] [] (fun g' _ A O => (g'.1 = false → g'.2 = (xsS a k).length) ∧ O = [] ∧ A.tail = [.fref [.pay (.rows a) z]]) := by
  refine gcall_intro (tyP_ok _) c20 2000 [] [0, 1] Try.func20 rfl (by rfl) rfl (by rfl) (by kernel_rfl) (by kernel_rfl) ?_
  unfold Try.f20
  simp (config := {implicitDefEqProofs := false, maxSteps := 4000000}) (disch := omega) only [push_cast, c20, Nat.reduceAdd, Nat.reduceSub, Nat.reduceMul, Nat.reduceBEq, Int.reduceToNat, Int.reduceNeg, Int.reduceLE, Int.reduceLT, reduceCtorEq]
  refine awp_loop (tyP_ok _) c20 2000 [0, 1, 4, 5, 6, 7, 8] (fun n g st => ∃ i : Nat, g = (false, i) ∧ i ≤ (bfs (dlt a) (all a) k i).1.length ∧ i ≤ 4096 ∧ n = 4096 - i ∧ st = S20 l a z (bfs (dlt a) (all a) k i) i) 4096 (by kernel_rfl) ?_ ?_
  · simp (config := {implicitDefEqProofs := false, maxSteps := 4000000}) (disch := omega) only [push_cast, c20, S20, O20, Nat.reduceAdd, Nat.reduceSub, Nat.reduceMul, Nat.reduceBEq, Int.reduceToNat, Int.reduceNeg, Int.reduceLE, Int.reduceLT, reduceCtorEq]
    rw [all_wrap hv.n1 h12]
    refine ⟨0, rfl, by omega, by omega, rfl, ?_⟩
    simp [bfs, lstA, stp, mapA, mput, mfind]
  rintro n g st ⟨i, rfl, hi, hi2, rfl, rfl⟩
  simp (config := {implicitDefEqProofs := false, maxSteps := 4000000}) (disch := omega) only [push_cast, c20, S20, O20, lstA_len, stp_len, Nat.reduceAdd, Nat.reduceSub, Nat.reduceMul, Nat.reduceBEq, Int.reduceToNat, Int.reduceNeg, Int.reduceLE, Int.reduceLT, reduceCtorEq]
  have hinv := bfs_inv (δ := dlt a) (s0 := all a) (k := k) i
  have hmore : More (all a) (bfs (dlt a) (all a) k i) (fin a k) := by
    have := bfs_more (δ := dlt a) (s0 := all a) (k := k) (i := i) (4096 - i)
    rw [show i + (4096 - i) = 4096 by omega] at this
    exact this
  have hxl : (xsS a k).length = (fin a k).1.length := by simp [xsS]
  have hbd : (bfs (dlt a) (all a) k i).1.length ≤ 4096 := ent_len hv hinv h12
  refine ⟨fun hlt => ⟨hlt, ?_⟩, fun hge => ?_⟩
  · refine callW_eq _ _ (f21 _ i false (by rw [hinv.len]; exact hlt) hinv.tree (by rw [hinv.len]; omega)) ?_
    simp (config := {implicitDefEqProofs := false, maxSteps := 4000000}) (disch := omega) only [push_cast, c20, S20, O20, lstA_len, stp_len, Nat.reduceAdd, Nat.reduceSub, Nat.reduceMul, Nat.reduceBEq, Int.reduceToNat, Int.reduceNeg, Int.reduceLE, Int.reduceLT, reduceCtorEq]
    refine ⟨⟨by rw [hxl]; exact Nat.lt_of_lt_of_le hlt hmore.len, ?_⟩, ?_⟩
    · have e1 := lstA_get (d := all a) hlt
      have e2 := wordOf_more hmore hinv.tree hinv.len hlt
      simp only [xsS, List.getElem_map, List.getElem_range]
      rw [e1, e2, hmore.l1 i hlt]
    refine callW_eq _ _ (f23 a z hv.n1) ?_
    rw [hv.k0]
    simp (config := {implicitDefEqProofs := false, maxSteps := 4000000}) (disch := omega) only [push_cast, c20, S20, O20, lstA_len, stp_len, Nat.reduceAdd, Nat.reduceSub, Nat.reduceMul, Nat.reduceBEq, Int.reduceToNat, Int.reduceNeg, Int.reduceLE, Int.reduceLT, reduceCtorEq]
    generalize hq0 : bfs (dlt a) (all a) k i = q0 at *
    refine awp_upto (tyP_ok _) c20 2000 [0, 1, 4, 5, 6, 7, 8, 41, 42] (k) (fun _ => True) (fun x => R20 l a z (inn (dlt a) (all a) i q0 x) i k x) (by kernel_rfl) ?_ ?_ ?_
    · simp (config := {implicitDefEqProofs := false, maxSteps := 4000000}) (disch := omega) only [push_cast, c20, R20, O20, lstA_len, stp_len, Nat.reduceAdd, Nat.reduceSub, Nat.reduceMul, Nat.reduceBEq, Int.reduceToNat, Int.reduceNeg, Int.reduceLE, Int.reduceLT, reduceCtorEq]
      exact ⟨rfl, rfl, rfl⟩
    · trivial
    intro x hx _
    obtain ⟨hinv2, hle2⟩ := inn_inv hinv hlt x hx
    have hi2l : i < (inn (dlt a) (all a) i q0 x).1.length := by omega
    have hlen2 := ent_len hv hinv2 h12
    have hsl := hinv2.len
    simp (config := {implicitDefEqProofs := false, maxSteps := 4000000}) (disch := omega) only [push_cast, c20, R20, O20, lstA_len, stp_len, Nat.reduceAdd, Nat.reduceSub, Nat.reduceMul, Nat.reduceBEq, Int.reduceToNat, Int.reduceNeg, Int.reduceLE, Int.reduceLT, reduceCtorEq]
    rw [lstA_get (d := all a) hi2l]
    refine ⟨fun hxk => ⟨hi2l, ?_⟩, fun hxk => ?_⟩
    · have h16 : (inn (dlt a) (all a) i q0 x).1.getD i (all a) < 65536 := by
        have h1 := ent_lt hv hinv2 i hi2l
        have h2 : (2 : Nat) ^ a.length ≤ 2 ^ 12 := Nat.pow_le_pow_right (by omega) h12
        omega
      refine callW_eq _ _ (f24 a z _ x k hv h12 hxk h16) ?_
      generalize ht : toN a ((inn (dlt a) (all a) i q0 x).1.getD i (all a)) x a.length = t
      have hstep : inn (dlt a) (all a) i q0 (x + 1) = if t ∈ (inn (dlt a) (all a) i q0 x).1 then inn (dlt a) (all a) i q0 x else ((inn (dlt a) (all a) i q0 x).1 ++ [t], (inn (dlt a) (all a) i q0 x).2 ++ [((i : Int), (x : Int))]) := by
        rw [← ht]; rfl
      generalize inn (dlt a) (all a) i q0 x = q at *
      simp (config := {implicitDefEqProofs := false, maxSteps := 4000000}) (disch := omega) only [push_cast, c20, R20, O20, lstA_len, stp_len, mget_mapA, lstA_app, stp_app, Nat.reduceAdd, Nat.reduceSub, Nat.reduceMul, Nat.reduceBEq, Int.reduceToNat, Int.reduceNeg, Int.reduceLE, Int.reduceLT, reduceCtorEq]
      have hk2 := hv.k2
      refine ⟨fun hnew => ?_, fun hold => ?_⟩
      · rw [hstep, if_neg hnew, mput_mapA hnew]
        refine ⟨by omega, ⟨fun r hr v hv => ?_, by omega⟩, hxk, wrap_i64 (by omega) (by omega), rfl, rfl, rfl⟩
        simp only [List.mem_singleton] at hr
        subst hr
        simp only [List.mem_cons, List.not_mem_nil, or_false] at hv
        rcases hv with rfl | rfl <;> rfl
      · rw [hstep, if_pos hold]
        exact ⟨hxk, wrap_i64 (by omega) (by omega), rfl, rfl, rfl⟩
    · have hb : inn (dlt a) (all a) i q0 x = bfs (dlt a) (all a) k (i + 1) := by
        rw [bfs, hq0, if_pos hlt, show x = k by omega]
      have hinv3 := bfs_inv (δ := dlt a) (s0 := all a) (k := k) (i + 1)
      have := ent_len hv hinv3 h12
      rw [hb] at hi2l hlen2 ⊢
      exact ⟨4096 - (i + 1), by omega, i + 1, rfl, by omega, by omega, rfl, by omega, rfl, rfl, rfl⟩
  · have : fin a k = bfs (dlt a) (all a) k i := by
      have := bfs_stop (δ := dlt a) (s0 := all a) (k := k) (i := i) (by omega) (4096 - i)
      rw [show i + (4096 - i) = 4096 by omega] at this
      exact this
    rw [hxl, this]; omega
theorem fin_inv (a : List (List Int)) (k : Nat) : BInv (dlt a) (all a) k 4096 0 (fin a k) := bfs_inv 4096
attribute [irreducible] fin
end Go.AM
end

/-! text Ta6 -/
section
namespace Go.AM
open Go Go.Proofs
/- mizmaze/short.sets -/
def c15 : VCfg := ⟨⟨[], [], [], [0, 1, 2]⟩, [], [], []⟩
theorem f15 (a : List (List Int)) (z : Bool) : ACall Try.prog 15 [.agg [.pay (.rows a) z]] (fun r objs => r = .clo 20 [.fref [.pay (.rows a) z]] ∧ objs = []) := by
  refine acall_intro (tyP_ok _) c15 2000 [.tmp 2] Try.func15 rfl (by rfl) rfl (by kernel_rfl) ?_
  unfold Try.f15
  simp (config := {implicitDefEqProofs := false, maxSteps := 4000000}) (disch := omega) only [push_cast, c15, Nat.reduceAdd, Nat.reduceSub, Nat.reduceMul, Nat.reduceBEq, Int.reduceToNat, Int.reduceNeg, Int.reduceLE, Int.reduceLT, reduceCtorEq]
/- mizmaze/short.Shortest -/
def c6 : VCfg := ⟨⟨[], [], [], [0, 1, 2, 3, 4, 5, 6, 10, 13, 14, 15, 18]⟩, [], [], []⟩
def ShortR (a : List (List Int)) (w : List Int) (e : Int) : Prop :=
  (vldB a = false ∧ e = 1 ∧ w = []) ∨ (vldB a = true ∧ 12 < a.length ∧ e = 3 ∧ w = []) ∨
  ∃ k, Vld a k ∧ a.length ≤ 12 ∧ ((∃ j, j < (fin a k).1.length ∧ popN ((fin a k).1.getD j (all a)) = 1 ∧ (∀ j', j' < j → popN ((fin a k).1.getD j' (all a)) ≠ 1) ∧ w = wordOf (fin a k).2 j ∧ e = 0) ∨
    ((∀ j, j < (fin a k).1.length → popN ((fin a k).1.getD j (all a)) ≠ 1) ∧ e = 4 ∧ w = []))
theorem fin_lt {a : List (List Int)} {k : Nat} (hv : Vld a k) (h12 : a.length ≤ 12) (j : Nat) (hj : j < (fin a k).1.length) : (fin a k).1.getD j (all a) < 65536 := by
  have h1 := ent_lt hv (fin_inv a k) j hj
  have h2 : (2 : Nat) ^ a.length ≤ 2 ^ 12 := Nat.pow_le_pow_right (by omega) h12
  omega
theorem f6 (a : List (List Int)) (z : Bool) (hl : a.length ≤ 4611686018427387904) (hl2 : ∀ r ∈ a, r.length ≤ 4611686018427387904) :
    ACall Try.prog 6 [.agg [.pay (.rows a) z]] (fun r objs => ∃ w e nz, ShortR a w e ∧ r = .tup [.pay (.ints .i64 w) nz, .int .i64 e] ∧ objs = []) := by
  refine acall_intro (tyP_ok _) c6 2000 [.cell 2 27, .cell 3 28] Try.func6 rfl (by rfl) rfl (by kernel_rfl) ?_
  unfold Try.f6
  simp (config := {implicitDefEqProofs := false, maxSteps := 4000000}) (disch := omega) only [push_cast, c6, Nat.reduceAdd, Nat.reduceSub, Nat.reduceMul, Nat.reduceBEq, Int.reduceToNat, Int.reduceNeg, Int.reduceLE, Int.reduceLT, reduceCtorEq]
  refine callW_eq _ _ (f14 a z hl hl2) ?_
  simp (config := {implicitDefEqProofs := false, maxSteps := 4000000}) (disch := omega) only [push_cast, c6, Nat.reduceAdd, Nat.reduceSub, Nat.reduceMul, Nat.reduceBEq, Int.reduceToNat, Int.reduceNeg, Int.reduceLE, Int.reduceLT, reduceCtorEq]
  refine ⟨fun hne => ?_, fun heq => ?_⟩
  · cases hv : vldB a with
    | false => exact ⟨[], 1, true, .inl ⟨hv, rfl, rfl⟩, ⟨rfl, rfl⟩, by simp⟩
    | true =>
      have h12 : 12 < a.length := by
        rw [hv, if_pos rfl] at hne
        split at hne
        · exact absurd rfl hne
        · omega
      exact ⟨[], 3, true, .inr (.inl ⟨hv, h12, rfl, rfl⟩), ⟨rfl, rfl⟩, by rw [if_pos rfl, if_neg (by omega)]⟩
  · refine callW_eq _ _ (f15 a z) ?_
    simp (config := {implicitDefEqProofs := false, maxSteps := 4000000}) (disch := omega) only [push_cast, c6, Nat.reduceAdd, Nat.reduceSub, Nat.reduceMul, Nat.reduceBEq, Int.reduceToNat, Int.reduceNeg, Int.reduceLE, Int.reduceLT, reduceCtorEq]
    have hv : vldB a = true := by cases h : vldB a with | true => rfl | false => rw [h] at heq; simp at heq
    have h12 : a.length ≤ 12 := by
      rw [hv, if_pos rfl] at heq
      split at heq
      · assumption
      · omega
    have hV := vldB_iff.1 hv
    generalize (a.getD 0 []).length = k at hV
    refine awp_range (tyP_ok _) c6 2000 (xsS a k) [2, 3] (fun j st => (∀ j', j' < j → popN ((fin a k).1.getD j' (all a)) ≠ 1) ∧ st = ⟨20, [(2, .ref 0 0), (3, .ref 1 0)], [.box [.lit (.slice none 0 0)], .box [.int .i64 0]]⟩)
      (fun j e st => e = .ret ∧ popN ((fin a k).1.getD j (all a)) = 1 ∧ (∀ j', j' < j → popN ((fin a k).1.getD j' (all a)) ≠ 1) ∧ j < (fin a k).1.length ∧ st = ⟨20, [(2, .ref 0 0), (3, .ref 1 0)], [.box [.pay (.ints .i64 (wordOf (fin a k).2 j)) true], .box [.int .i64 0]]⟩) (fun g' _ A O => (g'.1 = false → g'.2 = (xsS a k).length) ∧ O = [] ∧ A.tail = [.fref [.pay (.rows a) z]]) rfl (by rfl) ?_ (by kernel_rfl) (by kernel_rfl) (by kernel_rfl) (by kernel_rfl) ?_ ?_ ?_ ?_
    · intro j hj
      simp [xsS]
    · intro l
      simp (config := {implicitDefEqProofs := false, maxSteps := 4000000}) (disch := omega) only [push_cast, c6, Nat.reduceAdd, Nat.reduceSub, Nat.reduceMul, Nat.reduceBEq, Int.reduceToNat, Int.reduceNeg, Int.reduceLE, Int.reduceLT, reduceCtorEq]
      exact f20 l a z k hV h12
    · simp (config := {implicitDefEqProofs := false, maxSteps := 4000000}) (disch := omega) only [push_cast, c6, Nat.reduceAdd, Nat.reduceSub, Nat.reduceMul, Nat.reduceBEq, Int.reduceToNat, Int.reduceNeg, Int.reduceLE, Int.reduceLT, reduceCtorEq]
      exact fun j' h => by omega
    · intro j hj st hI
      have hp := hI.1
      have hst := hI.2
      clear hI
      subst hst
      have e : (xsS a k)[j] = [.int .u16 ((fin a k).1.getD j (all a) : Nat), .pay (.ints .i64 (wordOf (fin a k).2 j)) true] := by simp only [xsS, List.getElem_map, List.getElem_range]
      have hj' : j < (fin a k).1.length := by simpa [xsS] using hj
      rw [e]
      have hlt := fin_lt hV h12 j hj'
      generalize fin a k = F at *
      generalize hs : F.1.getD j (all a) = s at *
      generalize hwd : wordOf F.2 j = wd at *
      simp (config := {implicitDefEqProofs := false, maxSteps := 4000000}) (disch := omega) only [push_cast, c6, Nat.reduceAdd, Nat.reduceSub, Nat.reduceMul, Nat.reduceBEq, Int.reduceToNat, Int.reduceNeg, Int.reduceLE, Int.reduceLT, reduceCtorEq]
      refine callW_eq _ _ (f16 s hlt) ?_
      simp (config := {implicitDefEqProofs := false, maxSteps := 4000000}) (disch := omega) only [push_cast, c6, Nat.reduceAdd, Nat.reduceSub, Nat.reduceMul, Nat.reduceBEq, Int.reduceToNat, Int.reduceNeg, Int.reduceLE, Int.reduceLT, reduceCtorEq]
      refine ⟨fun h => ⟨by rw [hs]; omega, hp, hj', hwd.symm⟩, fun h j' hj2 => ?_⟩
      rcases Nat.lt_succ_iff_lt_or_eq.1 hj2 with hj2 | rfl
      · exact hp j' hj2
      · rw [hs]; omega
    · rintro g' r A O ⟨hg, rfl, hA⟩
      refine ⟨fun h1 st ⟨hp, hst⟩ => ?_, ?_⟩
      · subst hst
        simp (config := {implicitDefEqProofs := false, maxSteps := 4000000}) (disch := omega) only [push_cast, c6, hA, Nat.reduceAdd, Nat.reduceSub, Nat.reduceMul, Nat.reduceBEq, Int.reduceToNat, Int.reduceNeg, Int.reduceLE, Int.reduceLT, reduceCtorEq]
        refine ⟨[], 4, true, .inr (.inr ⟨k, hV, h12, .inr ⟨fun j hj => hp j ?_, rfl, rfl⟩⟩), ⟨rfl, rfl⟩, rfl⟩
        rw [hg h1]; simpa [xsS] using hj
      rintro h1 e st ⟨rfl, hpop, hp, hj, rfl⟩
      simp (config := {implicitDefEqProofs := false, maxSteps := 4000000}) (disch := omega) only [push_cast, c6, hA, Nat.reduceAdd, Nat.reduceSub, Nat.reduceMul, Nat.reduceBEq, Int.reduceToNat, Int.reduceNeg, Int.reduceLE, Int.reduceLT, reduceCtorEq]
      exact ⟨_, 0, true, .inr (.inr ⟨k, hV, h12, .inl ⟨g'.2, hj, hpop, hp, rfl, rfl⟩⟩), ⟨rfl, rfl⟩, rfl⟩

/- mizmaze/short.Rank -/
def c11 : VCfg := ⟨⟨[], [], [], [0, 1, 2, 3, 4, 5, 6, 7, 8, 9, 10, 11, 15, 22, 23, 24, 31]⟩, [(12, (.op 0 .loose (.op 1 .loose (.op 2 .loose (.op 3 .loose (.op 4 .loose .nil))))))], [], []⟩
/-- the first entry of the least number among the first j -/
def rankS (q : List Nat × Stp) (s0 n : Nat) : Nat → Nat × List Int
  | 0 => (n + 1, [])
  | j + 1 => if popN (q.1.getD j s0) < (rankS q s0 n j).1 then (popN (q.1.getD j s0), wordOf q.2 j) else rankS q s0 n j
theorem rankS_lt {F : List Nat × Stp} {s0 n j s : Nat} {wd : List Int} (hs : F.1.getD j s0 = s) (hwd : wordOf F.2 j = wd) (h : popN s < (rankS F s0 n j).1) : rankS F s0 n (j + 1) = (popN s, wd) := by
  unfold rankS
  rw [hs, if_pos h, hwd]
theorem rankS_ge {F : List Nat × Stp} {s0 n j s : Nat} (hs : F.1.getD j s0 = s) (h : (rankS F s0 n j).1 ≤ popN s) : rankS F s0 n (j + 1) = rankS F s0 n j := by
  rw [rankS, hs, if_neg (by omega)]
/-- a word, or nil -/
inductive WordA (w : List Int) : AV → Prop
  | nil (h : w = []) : WordA w (.lit (.slice none 0 0))
  | pay (nz : Bool) : WordA w (.pay (.ints .i64 w) nz)
def RankR (a : List (List Int)) (n : Int) (w : List Int) (e : Int) : Prop :=
  (vldB a = false ∧ e = 1 ∧ w = [] ∧ n = 0) ∨ (vldB a = true ∧ 12 < a.length ∧ e = 3 ∧ w = [] ∧ n = 0) ∨
  ∃ k, Vld a k ∧ a.length ≤ 12 ∧ n = (rankS (fin a k) (all a) a.length (fin a k).1.length).1 ∧ w = (rankS (fin a k) (all a) a.length (fin a k).1.length).2 ∧ e = 0
theorem f11 (a : List (List Int)) (z : Bool) (hl : a.length ≤ 4611686018427387904) (hl2 : ∀ r ∈ a, r.length ≤ 4611686018427387904) :
    ACall Try.prog 11 [.agg [.pay (.rows a) z]] (fun r objs => ∃ n w e nz, RankR a n w e ∧ r = .tup [.int .i64 n, .pay (.ints .i64 w) nz, .int .i64 e] ∧ objs = []) := by
  refine acall_intro (tyP_ok _) c11 2000 [.tmp 2, .tmp 3, .tmp 4] Try.func11 rfl (by rfl) rfl (by kernel_rfl) ?_
  unfold Try.f11
  simp (config := {implicitDefEqProofs := false, maxSteps := 4000000}) (disch := omega) only [push_cast, c11, Nat.reduceAdd, Nat.reduceSub, Nat.reduceMul, Nat.reduceBEq, Int.reduceToNat, Int.reduceNeg, Int.reduceLE, Int.reduceLT, reduceCtorEq]
  refine callW_eq _ _ (f14 a z hl hl2) ?_
  simp (config := {implicitDefEqProofs := false, maxSteps := 4000000}) (disch := omega) only [push_cast, c11, Nat.reduceAdd, Nat.reduceSub, Nat.reduceMul, Nat.reduceBEq, Int.reduceToNat, Int.reduceNeg, Int.reduceLE, Int.reduceLT, reduceCtorEq]
  refine ⟨fun hne => ?_, fun heq => ?_⟩
  · cases hv : vldB a with
    | false => exact ⟨0, [], 1, true, .inl ⟨hv, rfl, rfl, rfl⟩, rfl, ⟨rfl, rfl⟩, by simp⟩
    | true =>
      have h12 : 12 < a.length := by
        rw [hv, if_pos rfl] at hne
        split at hne
        · exact absurd rfl hne
        · omega
      exact ⟨0, [], 3, true, .inr (.inl ⟨hv, h12, rfl, rfl, rfl⟩), rfl, ⟨rfl, rfl⟩, by rw [if_pos rfl, if_neg (by omega)]⟩
  · have hv : vldB a = true := by cases h : vldB a with | true => rfl | false => rw [h] at heq; simp at heq
    have h12 : a.length ≤ 12 := by
      rw [hv, if_pos rfl] at heq
      split at heq
      · assumption
      · omega
    have hV := vldB_iff.1 hv
    generalize (a.getD 0 []).length = k at hV
    refine callW_eq _ _ (f15 a z) ?_
    simp (config := {implicitDefEqProofs := false, maxSteps := 4000000}) (disch := omega) only [push_cast, c11, Nat.reduceAdd, Nat.reduceSub, Nat.reduceMul, Nat.reduceBEq, Int.reduceToNat, Int.reduceNeg, Int.reduceLE, Int.reduceLT, reduceCtorEq]
    refine awp_range (tyP_ok _) c11 2000 (xsS a k) [6, 7] (fun j st => ∃ x, WordA (rankS (fin a k) (all a) a.length j).2 x ∧ st = ⟨36, [(6, .ref 0 0), (7, .ref 1 0)], [.box [.int .i64 (rankS (fin a k) (all a) a.length j).1], .box [x]]⟩)
      (fun j e st => False) (fun g' _ A O => (g'.1 = false → g'.2 = (xsS a k).length) ∧ O = [] ∧ A.tail = [.fref [.pay (.rows a) z]]) rfl (by rfl) ?_ (by kernel_rfl) (by kernel_rfl) (by kernel_rfl) (by kernel_rfl) ?_ ?_ ?_ ?_
    · intro j hj
      simp [xsS]
    · intro l
      simp (config := {implicitDefEqProofs := false, maxSteps := 4000000}) (disch := omega) only [push_cast, c11, Nat.reduceAdd, Nat.reduceSub, Nat.reduceMul, Nat.reduceBEq, Int.reduceToNat, Int.reduceNeg, Int.reduceLE, Int.reduceLT, reduceCtorEq]
      exact f20 l a z k hV h12
    · simp (config := {implicitDefEqProofs := false, maxSteps := 4000000}) (disch := omega) only [push_cast, c11, Nat.reduceAdd, Nat.reduceSub, Nat.reduceMul, Nat.reduceBEq, Int.reduceToNat, Int.reduceNeg, Int.reduceLE, Int.reduceLT, reduceCtorEq]
      exact ⟨_, .nil rfl, by simp [rankS], rfl⟩
    · intro j hj st hI
      have e : (xsS a k)[j] = [.int .u16 ((fin a k).1.getD j (all a) : Nat), .pay (.ints .i64 (wordOf (fin a k).2 j)) true] := by simp only [xsS, List.getElem_map, List.getElem_range]
      have hj' : j < (fin a k).1.length := by simpa [xsS] using hj
      rw [e]
      clear e hj
      have hlt := fin_lt hV h12 j hj'
      generalize fin a k = F at *
      obtain ⟨x, hx, hst⟩ := hI
      subst hst
      generalize hs : F.1.getD j (all a) = s at *
      generalize hwd : wordOf F.2 j = wd at *
      cases hx with
      | nil hx =>
        simp (config := {implicitDefEqProofs := false, maxSteps := 4000000}) (disch := omega) only [push_cast, c11, Nat.reduceAdd, Nat.reduceSub, Nat.reduceMul, Nat.reduceBEq, Int.reduceToNat, Int.reduceNeg, Int.reduceLE, Int.reduceLT, reduceCtorEq]
        refine callW_eq _ _ (f16 s hlt) ?_
        simp (config := {implicitDefEqProofs := false, maxSteps := 4000000}) (disch := omega) only [push_cast, c11, Nat.reduceAdd, Nat.reduceSub, Nat.reduceMul, Nat.reduceBEq, Int.reduceToNat, Int.reduceNeg, Int.reduceLE, Int.reduceLT, reduceCtorEq]
        refine ⟨fun h => ?_, fun h => ?_⟩
        · rw [rankS_lt hs hwd h]; exact ⟨_, .pay true, rfl, rfl⟩
        · rw [rankS_ge hs h]; exact ⟨_, .nil hx, rfl, rfl⟩
      | pay nz =>
        simp (config := {implicitDefEqProofs := false, maxSteps := 4000000}) (disch := omega) only [push_cast, c11, Nat.reduceAdd, Nat.reduceSub, Nat.reduceMul, Nat.reduceBEq, Int.reduceToNat, Int.reduceNeg, Int.reduceLE, Int.reduceLT, reduceCtorEq]
        refine callW_eq _ _ (f16 s hlt) ?_
        simp (config := {implicitDefEqProofs := false, maxSteps := 4000000}) (disch := omega) only [push_cast, c11, Nat.reduceAdd, Nat.reduceSub, Nat.reduceMul, Nat.reduceBEq, Int.reduceToNat, Int.reduceNeg, Int.reduceLE, Int.reduceLT, reduceCtorEq]
        refine ⟨fun h => ?_, fun h => ?_⟩
        · rw [rankS_lt hs hwd h]; exact ⟨_, .pay true, rfl, rfl⟩
        · rw [rankS_ge hs h]; exact ⟨_, .pay nz, rfl, rfl⟩
    · rintro g' r A O ⟨hg, rfl, hA⟩
      refine ⟨fun h1 st hI => ?_, fun _ _ _ h => h.elim⟩
      have e : g'.2 = (fin a k).1.length := by rw [hg h1]; simp [xsS]
      rw [e] at hI
      obtain ⟨x, hx, hst⟩ := hI
      subst hst
      have hR : RankR a (rankS (fin a k) (all a) a.length (fin a k).1.length).1 (rankS (fin a k) (all a) a.length (fin a k).1.length).2 0 := .inr (.inr ⟨k, hV, h12, rfl, rfl, rfl⟩)
      generalize (fin a k).1.length = L at *
      generalize rankS (fin a k) (all a) a.length L = R at *
      cases hx with
      | nil hx =>
        simp (config := {implicitDefEqProofs := false, maxSteps := 4000000}) (disch := omega) only [push_cast, c11, hA, Nat.reduceAdd, Nat.reduceSub, Nat.reduceMul, Nat.reduceBEq, Int.reduceToNat, Int.reduceNeg, Int.reduceLE, Int.reduceLT, reduceCtorEq]
        exact ⟨_, _, _, true, hR, rfl, ⟨hx.symm, rfl⟩, rfl⟩
      | pay nz =>
        simp (config := {implicitDefEqProofs := false, maxSteps := 4000000}) (disch := omega) only [push_cast, c11, hA, Nat.reduceAdd, Nat.reduceSub, Nat.reduceMul, Nat.reduceBEq, Int.reduceToNat, Int.reduceNeg, Int.reduceLE, Int.reduceLT, reduceCtorEq]
        exact ⟨_, _, _, nz, hR, rfl, ⟨rfl, rfl⟩, rfl⟩
end Go.AM
end

/-! text TaP -/
section
namespace Go.AM
open Go

/-! counting -/
def cnt (f : Nat → Bool) : Nat → Nat
  | 0 => 0
  | m + 1 => cnt f m + (f m).toNat
theorem cnt_congr {f g : Nat → Bool} : ∀ {m : Nat}, (∀ i, i < m → f i = g i) → cnt f m = cnt g m
  | 0, _ => rfl
  | m + 1, h => by simp only [cnt]; rw [cnt_congr fun i hi => h i (by omega), h m (by omega)]
theorem cnt_more {f : Nat → Bool} {m : Nat} : ∀ d, (∀ i, m ≤ i → f i = false) → cnt f (m + d) = cnt f m
  | 0, _ => rfl
  | d + 1, h => by
    show cnt f (m + d) + (f (m + d)).toNat = _
    rw [cnt_more d h, h (m + d) (by omega)]; rfl
theorem cnt_upd {f g : Nat → Bool} {t : Nat} (hg : g t = true) (hs : ∀ i, i ≠ t → g i = f i) : ∀ {m : Nat}, cnt g m = cnt f m + if t < m ∧ f t = false then 1 else 0
  | 0 => by simp [cnt]
  | m + 1 => by
    simp only [cnt]
    rw [cnt_upd hg hs]
    by_cases h : t = m
    · subst h
      rw [hg]
      cases hf : f t <;> simp
    · rw [hs m (Ne.symm h)]
      by_cases h2 : t < m
      · have : t < m + 1 := by omega
        simp [h2, this]; omega
      · have : ¬ t < m + 1 := by omega
        simp [h2, this]
theorem cnt_pos {f : Nat → Bool} : ∀ {m t : Nat}, t < m → f t = true → 1 ≤ cnt f m
  | m + 1, t, h, ht => by
    simp only [cnt]
    by_cases e : t = m
    · subst e; rw [ht]; simp
    · have := cnt_pos (m := m) (t := t) (by omega) ht; omega
theorem cnt_le (f : Nat → Bool) : ∀ m, cnt f m ≤ m
  | 0 => Nat.le_refl _
  | m + 1 => by
    simp only [cnt]
    have := cnt_le f m
    have : (f m).toNat ≤ 1 := by cases f m <;> simp
    omega
theorem popN_cnt (n : Nat) : popN n = cnt (fun i => n.testBit i) 16 := by
  simp only [popN, pop8, cnt, Nat.testBit_shiftRight, Nat.reduceAdd]
  omega
theorem popN_lt {n m : Nat} (h : n < 2 ^ m) (hm : m ≤ 16) : popN n = cnt (fun i => n.testBit i) m := by
  rw [popN_cnt]
  have e : (16 : Nat) = m + (16 - m) := by omega
  rw [e]
  exact cnt_more _ fun i hi => Nat.testBit_lt_two_pow (Nat.lt_of_lt_of_le h (Nat.pow_le_pow_right (by omega) hi))

/-! sets of states -/
theorem toN_bit {a : List (List Int)} {s x : Nat} (t : Nat) : ∀ m, (toN a s x m).testBit t = true ↔ ∃ p, p < m ∧ s.testBit p = true ∧ ((a.getD p []).getD x 0).toNat = t
  | 0 => by simp [toN]
  | m + 1 => by
    have ih := toN_bit (a := a) (s := s) (x := x) t m
    unfold toN
    by_cases h : s.testBit m = true
    · rw [if_pos h, Nat.testBit_or, Bool.or_eq_true, ih, Nat.testBit_two_pow]
      constructor
      · rintro (⟨p, h1, h2, h3⟩ | h1)
        · exact ⟨p, by omega, h2, h3⟩
        · exact ⟨m, by omega, h, by simpa using h1⟩
      · rintro ⟨p, h1, h2, h3⟩
        by_cases e : p = m
        · subst e; exact .inr (by simpa using h3)
        · exact .inl ⟨p, by omega, h2, h3⟩
    · rw [if_neg h, ih]
      constructor
      · rintro ⟨p, h1, h2, h3⟩; exact ⟨p, by omega, h2, h3⟩
      · rintro ⟨p, h1, h2, h3⟩
        by_cases e : p = m
        · subst e; exact absurd h2 h
        · exact ⟨p, by omega, h2, h3⟩
theorem run_bit {a : List (List Int)} {k : Nat} (hv : Vld a k) (t : Nat) : ∀ (w : List Int) (S : Nat), (∀ x ∈ w, 0 ≤ x ∧ x < k) → S < 2 ^ a.length → ((runW (dlt a) S w).testBit t = true ↔ ∃ s, s < a.length ∧ S.testBit s = true ∧ (leadG a s w).toNat = t)
  | [], S, _, hS => by
    simp only [runW, leadG]
    constructor
    · intro h
      refine ⟨t, ?_, h, by simp⟩
      by_cases hl : t < a.length
      · exact hl
      · rw [Nat.testBit_lt_two_pow (Nat.lt_of_lt_of_le hS (Nat.pow_le_pow_right (by omega) (by omega)))] at h; cases h
    · rintro ⟨s, _, h2, h3⟩
      have : s = t := by simpa using h3
      rw [← this]; exact h2
  | x :: w, S, hw, hS => by
    have hx := hw x (by simp)
    have ih := run_bit hv t w (dlt a S x.toNat) (fun y hy => hw y (by simp [hy])) (toN_lt hv _ _ (by omega) _ (Nat.le_refl _))
    simp only [runW, leadG]
    rw [ih]
    constructor
    · rintro ⟨s', h1, h2, h3⟩
      obtain ⟨p, p1, p2, p3⟩ := (toN_bit (a := a) s' a.length).1 h2
      have hat := hv.at (s := p) (x := x) (by omega) (by omega) hx.1 hx.2
      simp only [Int.toNat_natCast] at hat
      refine ⟨p, p1, p2, ?_⟩
      have e : (a.getD p []).getD x.toNat 0 = (s' : Int) := by omega
      simp only [Int.toNat_natCast]
      rw [e]; exact h3
    · rintro ⟨p, p1, p2, p3⟩
      have hat := hv.at (s := p) (x := x) (by omega) (by omega) hx.1 hx.2
      simp only [Int.toNat_natCast] at hat p3
      refine ⟨((a.getD p []).getD x.toNat 0).toNat, by omega, (toN_bit (a := a) _ a.length).2 ⟨p, p1, p2, rfl⟩, ?_⟩
      have e : ((((a.getD p []).getD x.toNat 0).toNat : Nat) : Int) = (a.getD p []).getD x.toNat 0 := by omega
      rw [e]; exact p3
theorem all_lt (a : List (List Int)) : all a < 2 ^ a.length := by
  have := Nat.two_pow_pos a.length
  unfold all; omega
theorem runW_lt {a : List (List Int)} {k : Nat} (hv : Vld a k) : ∀ (w : List Int) (S : Nat), (∀ x ∈ w, 0 ≤ x ∧ x < k) → S < 2 ^ a.length → runW (dlt a) S w < 2 ^ a.length
  | [], S, _, hS => hS
  | x :: w, S, hw, hS => by
    have hx := hw x (by simp)
    exact runW_lt hv w _ (fun y hy => hw y (by simp [hy])) (toN_lt hv _ _ (by omega) _ (Nat.le_refl _))
theorem spread_bit {a : List (List Int)} {k : Nat} (hv : Vld a k) {w : List Int} (hw : ∀ x ∈ w, 0 ≤ x ∧ x < k) : ∀ i, i ≤ a.length → (∀ t, (spreadS a w i).1.getD t false = true ↔ t < a.length ∧ ∃ s, s < i ∧ (leadG a s w).toNat = t) ∧ (spreadS a w i).2 = cnt (fun t => (spreadS a w i).1.getD t false) a.length
  | 0, _ => by
    refine ⟨fun t => ?_, ?_⟩
    · simp [spreadS, List.getD, List.getElem?_replicate]
      split <;> simp
    · have : ∀ m, cnt (fun t => (spreadS a w 0).1.getD t false) m = 0 := fun m => by
        induction m with
        | zero => rfl
        | succ m ih => simp only [cnt, ih]; simp [spreadS, List.getD, List.getElem?_replicate]; split <;> simp
      rw [this]; rfl
  | i + 1, hi => by
    obtain ⟨h1, h2⟩ := spread_bit hv hw i (by omega)
    have hl := hv.lead w (s := i) (by omega) (by omega) hw
    have hlen := spreadS_len a w i
    have hget : ∀ t, (spreadS a w (i + 1)).1.getD t false = if t = (leadG a i w).toNat then true else (spreadS a w i).1.getD t false := fun t => by
      simp only [spreadS, List.getD_eq_getElem?_getD, List.getElem?_set]
      by_cases e : (leadG a i w).toNat = t
      · rw [if_pos e, if_pos e.symm, if_pos (by omega)]; rfl
      · rw [if_neg e, if_neg (Ne.symm e)]
    refine ⟨fun t => ?_, ?_⟩
    · rw [hget]
      by_cases e : t = (leadG a i w).toNat
      · rw [if_pos e]
        exact ⟨fun _ => ⟨by omega, i, by omega, e.symm⟩, fun _ => rfl⟩
      · rw [if_neg e, h1]
        constructor
        · rintro ⟨q1, s, q2, q3⟩; exact ⟨q1, s, by omega, q3⟩
        · rintro ⟨q1, s, q2, q3⟩
          refine ⟨q1, s, ?_, q3⟩
          by_cases e2 : s = i
          · subst e2; exact absurd q3.symm e
          · omega
    · have hc := cnt_upd (f := fun t => (spreadS a w i).1.getD t false) (g := fun t => (spreadS a w (i + 1)).1.getD t false) (t := (leadG a i w).toNat) (by simp only [hget]; simp) (fun t ht => by simp only [hget]; rw [if_neg ht]) (m := a.length)
      rw [hc, ← h2]
      simp only [spreadS]
      have hlt : (leadG a i w).toNat < a.length := by omega
      cases hg : (spreadS a w i).1.getD (leadG a i w).toNat false <;> simp [hlt]
/-- to how many states a word leads -/
theorem spread_pop {a : List (List Int)} {k : Nat} (hv : Vld a k) (h12 : a.length ≤ 12) {w : List Int} (hw : ∀ x ∈ w, 0 ≤ x ∧ x < k) : (spreadS a w a.length).2 = popN (runW (dlt a) (all a) w) := by
  obtain ⟨h1, h2⟩ := spread_bit hv hw a.length (Nat.le_refl _)
  rw [h2, popN_lt (runW_lt hv w _ hw (all_lt a)) (by omega)]
  refine cnt_congr fun t ht => ?_
  rw [Bool.eq_iff_iff, h1, run_bit hv t w (all a) hw (all_lt a)]
  constructor
  · rintro ⟨_, s, q1, q2⟩
    refine ⟨s, q1, ?_, q2⟩
    unfold all; rw [Nat.testBit_two_pow_sub_one]; simpa using q1
  · rintro ⟨s, q1, _, q2⟩; exact ⟨ht, s, q1, q2⟩
theorem spread_pos {a : List (List Int)} {k : Nat} (hv : Vld a k) {w : List Int} (hw : ∀ x ∈ w, 0 ≤ x ∧ x < k) : 1 ≤ (spreadS a w a.length).2 := by
  obtain ⟨h1, h2⟩ := spread_bit hv hw a.length (Nat.le_refl _)
  have h0 := hv.n1
  have hl := hv.lead w (s := (0 : Nat)) (by omega) (by omega) hw
  rw [h2]
  exact cnt_pos (t := (leadG a (0 : Nat) w).toNat) (by omega) ((h1 _).2 ⟨by omega, 0, by omega, rfl⟩)
theorem spread_le {a : List (List Int)} {w : List Int} : (spreadS a w a.length).2 ≤ a.length := spreadS_le a w _

/-! the search -/
section
variable {a : List (List Int)} {k : Nat} (hv : Vld a k) (h12 : a.length ≤ 12)
include hv h12
theorem fin_done : Done (dlt a) (all a) k (fin a k) := ⟨(fin_inv a k).done (ent_len hv (fin_inv a k) h12)⟩
theorem fin_ent {j : Nat} (hj : j < (fin a k).1.length) : (∀ x ∈ wordOf (fin a k).2 j, 0 ≤ x ∧ x < k) ∧ (spreadS a (wordOf (fin a k).2 j) a.length).2 = popN ((fin a k).1.getD j (all a)) := by
  obtain ⟨h1, h2⟩ := (fin_done hv h12).reach j hj
  exact ⟨h2, by rw [spread_pop hv h12 h2, h1]⟩
theorem fin_word {u : List Int} (hu : ∀ x ∈ u, 0 ≤ x ∧ x < k) : ∃ m, m < (fin a k).1.length ∧ (spreadS a u a.length).2 = popN ((fin a k).1.getD m (all a)) ∧ comesB u (wordOf (fin a k).2 m) = false := by
  obtain ⟨m, h1, h2, h3⟩ := (fin_done hv h12).first u hu
  exact ⟨m, h1, by rw [spread_pop hv h12 hu, h2], h3⟩
/-- the word of an entry does not come after a later one's -/
theorem fin_sorted {j m : Nat} (h : j ≤ m) (hm : m < (fin a k).1.length) {u : List Int} (hu : comesB u (wordOf (fin a k).2 m) = false) : comesB u (wordOf (fin a k).2 j) = false := by
  rcases Nat.lt_or_ge j m with h' | h'
  · have := (fin_done hv h12).inv.sorted j m h' hm
    exact leB_trans (leB_of this) hu
  · obtain rfl : j = m := by omega
    exact hu
theorem rank_spec : ∃ j, j < (fin a k).1.length ∧ rankS (fin a k) (all a) a.length (fin a k).1.length = (popN ((fin a k).1.getD j (all a)), wordOf (fin a k).2 j) ∧ (∀ i, i < (fin a k).1.length → popN ((fin a k).1.getD j (all a)) ≤ popN ((fin a k).1.getD i (all a))) ∧
    ∀ i, i < (fin a k).1.length → popN ((fin a k).1.getD i (all a)) = popN ((fin a k).1.getD j (all a)) → j ≤ i := by
  have key : ∀ J, J ≤ (fin a k).1.length → 0 < J → ∃ j, j < J ∧ rankS (fin a k) (all a) a.length J = (popN ((fin a k).1.getD j (all a)), wordOf (fin a k).2 j) ∧ (∀ i, i < J → popN ((fin a k).1.getD j (all a)) ≤ popN ((fin a k).1.getD i (all a))) ∧
      ∀ i, i < J → popN ((fin a k).1.getD i (all a)) = popN ((fin a k).1.getD j (all a)) → j ≤ i := by
    intro J
    induction J with
    | zero => intro _ h; omega
    | succ J ih =>
      intro hJ _
      by_cases h0 : J = 0
      · subst h0
        have hle : popN ((fin a k).1.getD 0 (all a)) < a.length + 1 := by
          rw [← (fin_ent hv h12 (j := 0) (by omega)).2]
          have := spread_le (a := a) (w := wordOf (fin a k).2 0)
          omega
        refine ⟨0, by omega, ?_, fun i hi => ?_, fun i _ _ => by omega⟩
        · rw [rankS_lt rfl rfl (by simpa [rankS] using hle)]
        · have : i = 0 := by omega
          subst this; exact Nat.le_refl _
      · obtain ⟨j, h1, h2, h3, h4⟩ := ih (by omega) (by omega)
        by_cases hlt : popN ((fin a k).1.getD J (all a)) < popN ((fin a k).1.getD j (all a))
        · refine ⟨J, by omega, rankS_lt rfl rfl (by rw [h2]; exact hlt), fun i hi => ?_, fun i hi he => ?_⟩
          · by_cases e : i = J
            · subst e; exact Nat.le_refl _
            · have := h3 i (by omega); omega
          · by_cases e : i = J
            · omega
            · have := h3 i (by omega); omega
        · refine ⟨j, by omega, by rw [rankS_ge rfl (by rw [h2]; omega), h2], fun i hi => ?_, fun i hi he => ?_⟩
          · by_cases e : i = J
            · subst e; omega
            · exact h3 i (by omega)
          · by_cases e : i = J
            · omega
            · exact h4 i (by omega) he
  exact key _ (Nat.le_refl _) (fin_done hv h12).inv.pos
end
end Go.AM
end

/-! text Ta7 -/
section
namespace Go.AM
open Go Go.Proofs
def eA : List (List Int) := [[1, 0], [2, 1], [0, 0]]
theorem eA_v : Vld eA 2 := ⟨by decide, by decide, by decide, by decide, by decide⟩
theorem eA_fin : fin eA 2 = ([7, 3, 6, 5, 1, 2, 4], [(-1, 0), (0, 1), (1, 0), (2, 0), (3, 1), (4, 0), (5, 0)]) := by
  have h : bfs (dlt eA) (all eA) 2 8 = ([7, 3, 6, 5, 1, 2, 4], [(-1, 0), (0, 1), (1, 0), (2, 0), (3, 1), (4, 0), (5, 0)]) := by decide +kernel
  have := bfs_stop (δ := dlt eA) (s0 := all eA) (k := 2) (i := 8) (by rw [h]; decide) 4088
  rw [h] at this
  unfold fin
  exact this
theorem eA_short {w : List Int} {e : Int} (h : ShortR eA w e) : e = 0 ∧ w = [1, 0, 0, 1] := by
  rcases h with ⟨h, _⟩ | ⟨_, h, _⟩ | ⟨k, hv, _, h⟩
  · have := vldB_iff.2 (show Vld eA (eA.getD 0 []).length from eA_v)
    rw [this] at h; cases h
  · simp [eA] at h
  · have hk : k = 2 := by have := hv.k0; simpa [eA] using this.symm
    subst hk
    rw [eA_fin] at h
    rcases h with ⟨j, hj, h1, h2, h3, h4⟩ | ⟨h, _⟩
    · have h4' : j = 4 := by
        rcases Nat.lt_trichotomy j 4 with hlt | rfl | hgt
        · exfalso
          have : j = 0 ∨ j = 1 ∨ j = 2 ∨ j = 3 := by omega
          rcases this with rfl | rfl | rfl | rfl <;> exact absurd h1 (by decide +kernel)
        · rfl
        · exact absurd (by decide +kernel) (h2 4 hgt)
      subst h4'
      exact ⟨h4, by rw [h3]; decide +kernel⟩
    · exact absurd (by decide +kernel) (h 4 (by decide))
/- mizmaze/mizmazetop.shortens -/
def c7 : VCfg := ⟨⟨[], [], [], [0, 1, 2]⟩, [], [], []⟩
theorem f7 : ACall Try.prog 7 [] (fun r objs => r = .bool true ∧ objs = []) := by
  refine acall_intro (tyP_ok _) c7 2000 [.tmp 0] Try.func7 rfl (by rfl) rfl (by kernel_rfl) ?_
  unfold Try.f7
  simp (config := {implicitDefEqProofs := false, maxSteps := 4000000}) (disch := omega) only [push_cast, c7, Nat.reduceAdd, Nat.reduceSub, Nat.reduceMul, Nat.reduceBEq, Int.reduceToNat, Int.reduceNeg, Int.reduceLE, Int.reduceLT, reduceCtorEq]
  refine callW_rel (f6 eA false (by decide) (by decide)) ?_
  rintro R O ⟨w, e, nz, h, rfl, rfl⟩
  obtain ⟨rfl, rfl⟩ := eA_short h
  simp (config := {implicitDefEqProofs := false, maxSteps := 4000000}) (disch := omega) only [push_cast, c7, Nat.reduceAdd, Nat.reduceSub, Nat.reduceMul, Nat.reduceBEq, Int.reduceToNat, Int.reduceNeg, Int.reduceLE, Int.reduceLT, reduceCtorEq]
  refine callW_eq _ _ (f17 [1, 0, 0, 1] [1, 0, 0, 1] _ _ (by decide)) ?_
  simp (config := {implicitDefEqProofs := false, maxSteps := 4000000}) (disch := omega) only [push_cast, c7, Nat.reduceAdd, Nat.reduceSub, Nat.reduceMul, Nat.reduceBEq, Int.reduceToNat, Int.reduceNeg, Int.reduceLE, Int.reduceLT, reduceCtorEq]
theorem word_len {a : List (List Int)} {k i x : Nat} {q : List Nat × Stp} (h : BInv (dlt a) (all a) k i x q) : ∀ j, j < q.1.length → (wordOf q.2 j).length ≤ j := by
  intro j
  induction j using Nat.strongRecOn with
  | _ j ih =>
    intro hj
    rcases h.word hj with ⟨rfl, e⟩ | ⟨p, y, h1, _, _, _, e⟩
    · rw [e]; exact Nat.le_refl _
    · have := ih p h1 (by omega)
      rw [e]; simp; omega
def spr (a : List (List Int)) (w : List Int) : Nat := (spreadS a w a.length).2
theorem f8' (a : List (List Int)) (z z' : Bool) (word : List Int) (k : Nat) (hv : Vld a k) (hx : word.length ≤ 4611686018427387904) (hw : ∀ x ∈ word, 0 ≤ x ∧ x < k) :
    ACall Try.prog 8 [.agg [.pay (.rows a) z], .pay (.ints .i64 word) z'] (fun r objs => r = .int .i64 (spr a word) ∧ objs = []) := f8 a z z' word k hv hx hw
theorem vldB_ne {a : List (List Int)} (hv : vldB a = true) (h : vldB a = false) : False := by rw [h] at hv; cases hv
theorem short_plain {a : List (List Int)} {k : Nat} {u w v : List Int} {e n f : Int} (hV : Vld a k) (h12 : a.length ≤ 12) (hx : ∀ x ∈ u, 0 ≤ x ∧ x < k) (hS : ShortR a w e) (hR : RankR a n v f) :
    ∃ p0 : Nat, n = p0 ∧ f = 0 ∧ ((∀ x ∈ v, 0 ≤ x ∧ x < k) ∧ v.length ≤ 4096 ∧ rightB k v = true ∧ spr a v = p0) ∧ 1 ≤ p0 ∧ p0 ≤ a.length ∧ p0 ≤ spr a u ∧
      (spr a u = p0 → comesB u v = false) ∧
      ((e = 0 ∧ p0 = 1 ∧ rightB k w = true ∧ (∀ x ∈ w, 0 ≤ x ∧ x < k) ∧ w.length ≤ 4096 ∧ spr a w = 1 ∧ (spr a u = 1 → comesB u w = false)) ∨ (e = 4 ∧ 1 < p0)) := by
  have hk := hV.k0
  have hv : vldB a = true := vldB_iff.2 (hk ▸ hV)
  obtain ⟨j0, hj0, hr0, hmin, hfst⟩ := rank_spec hV h12
  have hke : ∀ {k'}, Vld a k' → k' = k := fun h => by rw [← h.k0, hk]
  have hR' : n = (popN ((fin a k).1.getD j0 (all a)) : Nat) ∧ v = wordOf (fin a k).2 j0 ∧ f = 0 := by
    rcases hR with ⟨h, _⟩ | ⟨_, h, _⟩ | ⟨k', hv', _, h1, h2, h3⟩
    · exact (vldB_ne hv h).elim
    · omega
    · obtain rfl := hke hv'
      rw [hr0] at h1 h2
      exact ⟨h1, h2, h3⟩
  obtain ⟨rfl, rfl, rfl⟩ := hR'
  obtain ⟨m, hm, hspu, hcu⟩ := fin_word hV h12 hx
  rw [show (spreadS a u a.length).2 = spr a u from rfl] at hspu
  have hwl : ∀ j, j < (fin a k).1.length → (wordOf (fin a k).2 j).length ≤ 4096 := fun j hj => by
    have := word_len (fin_inv a k) j hj
    have := ent_len hV (fin_inv a k) h12
    omega
  have hent : ∀ j, j < (fin a k).1.length → (∀ x ∈ wordOf (fin a k).2 j, 0 ≤ x ∧ x < k) ∧ (wordOf (fin a k).2 j).length ≤ 4096 ∧ rightB k (wordOf (fin a k).2 j) = true ∧ spr a (wordOf (fin a k).2 j) = popN ((fin a k).1.getD j (all a)) := fun j hj => by
    obtain ⟨h1, h2⟩ := fin_ent hV h12 hj
    exact ⟨h1, hwl j hj, rightB_iff.2 ⟨h1, by have := hwl j hj; omega⟩, h2⟩
  have hp1 : ∀ j, j < (fin a k).1.length → 1 ≤ popN ((fin a k).1.getD j (all a)) := fun j hj => by
    rw [← (hent j hj).2.2.2]; exact spread_pos hV (hent j hj).1
  refine ⟨_, rfl, rfl, hent j0 hj0, hp1 j0 hj0, by rw [← (hent j0 hj0).2.2.2]; exact spread_le, by rw [hspu]; exact hmin m hm, fun he => fin_sorted hV h12 (hfst m hm (by rw [← hspu]; exact he)) hm hcu, ?_⟩
  rcases hS with ⟨h, _⟩ | ⟨_, h, _⟩ | ⟨k', hv', _, ⟨j, hj, h1, h2, rfl, rfl⟩ | ⟨h1, rfl, rfl⟩⟩
  · exact (vldB_ne hv h).elim
  · omega
  · obtain rfl := hke hv'
    have hp0 : popN ((fin a k').1.getD j0 (all a)) = 1 := by
      have := hmin j hj; have := hp1 j0 hj0; omega
    have e1 := hent j hj
    refine .inl ⟨rfl, hp0, e1.2.2.1, e1.1, e1.2.1, by rw [e1.2.2.2]; exact h1, fun he => fin_sorted hV h12 (Nat.le_of_not_lt fun hlt => h2 m hlt (by rw [← hspu]; exact he)) hm hcu⟩
  · obtain rfl := hke hv'
    have := h1 j0 hj0; have := hp1 j0 hj0
    exact .inr ⟨rfl, by omega⟩
attribute [irreducible] spr
/- mizmaze/mizmazetop.TopShortest -/
def c4 : VCfg := ⟨⟨[], [], [], [0, 1, 2, 4, 5, 6, 7, 8, 9, 18, 78, 80]⟩, [], [], []⟩
set_option maxHeartbeats 1000000 in
theorem f4 (a : List (List Int)) (z z' : Bool) (word : List Int) (hl : a.length ≤ 4611686018427387904) (hl2 : ∀ r ∈ a, r.length ≤ 4611686018427387904) (hw : word.length ≤ 4611686018427387904) :
    ACall Try.prog 4 [.agg [.pay (.rows a) z], .pay (.ints .i64 word) z'] (fun r objs => r = .bool true ∧ objs = []) := by
  refine acall_intro (tyP_ok _) c4 2000 [.tmp 4] Try.func4 rfl (by rfl) rfl (by kernel_rfl) ?_
  unfold Try.f4
  simp (config := {implicitDefEqProofs := false, maxSteps := 4000000}) (disch := omega) only [push_cast, c4, Nat.reduceAdd, Nat.reduceSub, Nat.reduceMul, Nat.reduceBEq, Int.reduceToNat, Int.reduceNeg, Int.reduceLE, Int.reduceLT, reduceCtorEq]
  refine callW_eq _ _ (f9 a z hl hl2) ?_
  simp (config := {implicitDefEqProofs := false, maxSteps := 4000000}) (disch := omega) only [push_cast, c4, Nat.reduceAdd, Nat.reduceSub, Nat.reduceMul, Nat.reduceBEq, Int.reduceToNat, Int.reduceNeg, Int.reduceLE, Int.reduceLT, reduceCtorEq]
  refine ⟨fun hv => ?_, fun hv => ?_⟩
  · refine callW_eq _ _ (f7) ?_
    simp (config := {implicitDefEqProofs := false, maxSteps := 4000000}) (disch := omega) only [push_cast, c4, Nat.reduceAdd, Nat.reduceSub, Nat.reduceMul, Nat.reduceBEq, Int.reduceToNat, Int.reduceNeg, Int.reduceLE, Int.reduceLT, reduceCtorEq]
  refine ⟨fun h9 => ?_, fun h9 => ?_⟩
  · refine callW_eq _ _ (f7) ?_
    simp (config := {implicitDefEqProofs := false, maxSteps := 4000000}) (disch := omega) only [push_cast, c4, Nat.reduceAdd, Nat.reduceSub, Nat.reduceMul, Nat.reduceBEq, Int.reduceToNat, Int.reduceNeg, Int.reduceLE, Int.reduceLT, reduceCtorEq]
  have hV := vldB_iff.1 hv
  generalize hk : (a.getD 0 []).length = k at hV
  have hk1 := hV.k1
  have hk6 := hV.k2
  refine callW_eq _ _ (f10 a z z' word hV.n1 (by omega) (by omega) hw) ?_
  rw [hk]
  have hx : ∀ x ∈ properL k word, 0 ≤ x ∧ x < k := fun x hx => by
    simp only [properL, List.mem_map] at hx
    obtain ⟨y, _, rfl⟩ := hx
    exact ⟨Int.emod_nonneg _ (by omega), Int.emod_lt_of_pos _ (by omega)⟩
  have hpl : (properL k word).length ≤ 2000 := by simp [properL]; omega
  clear hk1 hk6
  generalize properL k word = u at *
  simp (config := {implicitDefEqProofs := false, maxSteps := 4000000}) (disch := omega) only [push_cast, c4, Nat.reduceAdd, Nat.reduceSub, Nat.reduceMul, Nat.reduceBEq, Int.reduceToNat, Int.reduceNeg, Int.reduceLE, Int.reduceLT, reduceCtorEq]
  refine callW_rel (f6 a z hl hl2) ?_
  rintro R O ⟨w, e, nz, hS, rfl, rfl⟩
  simp (config := {implicitDefEqProofs := false, maxSteps := 4000000}) (disch := omega) only [push_cast, c4, Nat.reduceAdd, Nat.reduceSub, Nat.reduceMul, Nat.reduceBEq, Int.reduceToNat, Int.reduceNeg, Int.reduceLE, Int.reduceLT, reduceCtorEq]
  refine callW_rel (f11 a z hl hl2) ?_
  rintro R O ⟨n, v, f, nz2, hR, rfl, rfl⟩
  simp (config := {implicitDefEqProofs := false, maxSteps := 4000000}) (disch := omega) only [push_cast, c4, Nat.reduceAdd, Nat.reduceSub, Nat.reduceMul, Nat.reduceBEq, Int.reduceToNat, Int.reduceNeg, Int.reduceLE, Int.reduceLT, reduceCtorEq]
  obtain ⟨p0, rfl, rfl, ⟨v1, v2, v3, v4⟩, p1, p2, p3, p4, hE⟩ := short_plain hV (by omega) hx hS hR
  have hn1 := hV.n1
  have hn2 := hV.n2
  clear hS hR hl2
  generalize hsu : spr a u = su at *
  refine ⟨fun h => absurd rfl h, fun _ => ⟨fun h => by omega, fun _ => ?_⟩⟩
  refine callW_eq _ _ (f12 a z _ v (by omega) hn1) ?_
  rw [hk, v3]
  simp (config := {implicitDefEqProofs := false, maxSteps := 4000000}) (disch := omega) only [push_cast, c4, Nat.reduceAdd, Nat.reduceSub, Nat.reduceMul, Nat.reduceBEq, Int.reduceToNat, Int.reduceNeg, Int.reduceLE, Int.reduceLT, reduceCtorEq]
  refine callW_eq _ _ (f8' a z _ v k hV (by omega) v1) ?_
  rw [v4]
  simp (config := {implicitDefEqProofs := false, maxSteps := 4000000}) (disch := omega) only [push_cast, c4, Nat.reduceAdd, Nat.reduceSub, Nat.reduceMul, Nat.reduceBEq, Int.reduceToNat, Int.reduceNeg, Int.reduceLE, Int.reduceLT, reduceCtorEq]
  refine callW_eq _ _ (f8' a z _ u k hV (by omega) hx) ?_
  rw [hsu]
  simp (config := {implicitDefEqProofs := false, maxSteps := 4000000}) (disch := omega) only [push_cast, c4, Nat.reduceAdd, Nat.reduceSub, Nat.reduceMul, Nat.reduceBEq, Int.reduceToNat, Int.reduceNeg, Int.reduceLE, Int.reduceLT, reduceCtorEq]
  refine ⟨fun h => by omega, fun h => ?_⟩
  refine callW_eq _ _ (f8' a z _ u k hV (by omega) hx) ?_
  rw [hsu]
  simp (config := {implicitDefEqProofs := false, maxSteps := 4000000}) (disch := omega) only [push_cast, c4, Nat.reduceAdd, Nat.reduceSub, Nat.reduceMul, Nat.reduceBEq, Int.reduceToNat, Int.reduceNeg, Int.reduceLE, Int.reduceLT, reduceCtorEq]
  refine ⟨fun h2 => ?_, fun h2 => ?_⟩
  · have h3 := p4 (by omega)
    refine callW_eq _ _ (f13 u v _ _ (by omega)) ?_
    rw [h3]
    simp (config := {implicitDefEqProofs := false, maxSteps := 4000000}) (disch := omega) only [push_cast, c4, Nat.reduceAdd, Nat.reduceSub, Nat.reduceMul, Nat.reduceBEq, Int.reduceToNat, Int.reduceNeg, Int.reduceLE, Int.reduceLT, reduceCtorEq]
    rcases hE with ⟨rfl, rfl, w1, w2, w3, w4, w5⟩ | ⟨rfl, he⟩
    · refine ⟨fun h => absurd h (by decide), fun _ => ⟨fun h => absurd rfl h, fun _ => ?_⟩⟩
      refine callW_eq _ _ (f12 a z _ w (by omega) hn1) ?_
      rw [hk, w1]
      simp (config := {implicitDefEqProofs := false, maxSteps := 4000000}) (disch := omega) only [push_cast, c4, Nat.reduceAdd, Nat.reduceSub, Nat.reduceMul, Nat.reduceBEq, Int.reduceToNat, Int.reduceNeg, Int.reduceLE, Int.reduceLT, reduceCtorEq]
      refine callW_eq _ _ (f8' a z _ w k hV (by omega) w2) ?_
      rw [w4]
      simp (config := {implicitDefEqProofs := false, maxSteps := 4000000}) (disch := omega) only [push_cast, c4, Nat.reduceAdd, Nat.reduceSub, Nat.reduceMul, Nat.reduceBEq, Int.reduceToNat, Int.reduceNeg, Int.reduceLE, Int.reduceLT, reduceCtorEq]
      refine ⟨fun _ => ?_, fun h => absurd rfl h⟩
      refine callW_eq _ _ (f8' a z _ u k hV (by omega) hx) ?_
      rw [hsu]
      simp (config := {implicitDefEqProofs := false, maxSteps := 4000000}) (disch := omega) only [push_cast, c4, Nat.reduceAdd, Nat.reduceSub, Nat.reduceMul, Nat.reduceBEq, Int.reduceToNat, Int.reduceNeg, Int.reduceLE, Int.reduceLT, reduceCtorEq]
      refine ⟨fun h1 => ?_, fun h1 => ?_⟩
      · refine callW_eq _ _ (f13 u w _ _ (by omega)) ?_
        rw [w5 (by omega)]
        simp (config := {implicitDefEqProofs := false, maxSteps := 4000000}) (disch := omega) only [push_cast, c4, Nat.reduceAdd, Nat.reduceSub, Nat.reduceMul, Nat.reduceBEq, Int.reduceToNat, Int.reduceNeg, Int.reduceLE, Int.reduceLT, reduceCtorEq]
        refine callW_eq _ _ (f7) ?_
        simp (config := {implicitDefEqProofs := false, maxSteps := 4000000}) (disch := omega) only [push_cast, c4, Nat.reduceAdd, Nat.reduceSub, Nat.reduceMul, Nat.reduceBEq, Int.reduceToNat, Int.reduceNeg, Int.reduceLE, Int.reduceLT, reduceCtorEq]
      · refine callW_eq _ _ (f7) ?_
        simp (config := {implicitDefEqProofs := false, maxSteps := 4000000}) (disch := omega) only [push_cast, c4, Nat.reduceAdd, Nat.reduceSub, Nat.reduceMul, Nat.reduceBEq, Int.reduceToNat, Int.reduceNeg, Int.reduceLE, Int.reduceLT, reduceCtorEq]
    · refine ⟨fun h => by simp at h; omega, fun _ => ⟨fun _ => ⟨fun _ => ?_, fun h => absurd rfl h⟩, fun h => by omega⟩⟩
      refine callW_eq _ _ (f8' a z _ u k hV (by omega) hx) ?_
      rw [hsu]
      simp (config := {implicitDefEqProofs := false, maxSteps := 4000000}) (disch := omega) only [push_cast, c4, Nat.reduceAdd, Nat.reduceSub, Nat.reduceMul, Nat.reduceBEq, Int.reduceToNat, Int.reduceNeg, Int.reduceLE, Int.reduceLT, reduceCtorEq]
      refine ⟨fun h1 => ?_, fun h1 => by omega⟩
      refine callW_eq _ _ (f7) ?_
      simp (config := {implicitDefEqProofs := false, maxSteps := 4000000}) (disch := omega) only [push_cast, c4, Nat.reduceAdd, Nat.reduceSub, Nat.reduceMul, Nat.reduceBEq, Int.reduceToNat, Int.reduceNeg, Int.reduceLE, Int.reduceLT, reduceCtorEq]
  · clear h
    rcases hE with ⟨rfl, rfl, w1, w2, w3, w4, w5⟩ | ⟨rfl, he⟩
    · refine ⟨fun h => absurd h (by decide), fun _ => ⟨fun h => absurd rfl h, fun _ => ?_⟩⟩
      refine callW_eq _ _ (f12 a z _ w (by omega) hn1) ?_
      rw [hk, w1]
      simp (config := {implicitDefEqProofs := false, maxSteps := 4000000}) (disch := omega) only [push_cast, c4, Nat.reduceAdd, Nat.reduceSub, Nat.reduceMul, Nat.reduceBEq, Int.reduceToNat, Int.reduceNeg, Int.reduceLE, Int.reduceLT, reduceCtorEq]
      refine callW_eq _ _ (f8' a z _ w k hV (by omega) w2) ?_
      rw [w4]
      simp (config := {implicitDefEqProofs := false, maxSteps := 4000000}) (disch := omega) only [push_cast, c4, Nat.reduceAdd, Nat.reduceSub, Nat.reduceMul, Nat.reduceBEq, Int.reduceToNat, Int.reduceNeg, Int.reduceLE, Int.reduceLT, reduceCtorEq]
      refine ⟨fun _ => ?_, fun h => absurd rfl h⟩
      refine callW_eq _ _ (f8' a z _ u k hV (by omega) hx) ?_
      rw [hsu]
      simp (config := {implicitDefEqProofs := false, maxSteps := 4000000}) (disch := omega) only [push_cast, c4, Nat.reduceAdd, Nat.reduceSub, Nat.reduceMul, Nat.reduceBEq, Int.reduceToNat, Int.reduceNeg, Int.reduceLE, Int.reduceLT, reduceCtorEq]
      refine ⟨fun h1 => ?_, fun h1 => ?_⟩
      · refine callW_eq _ _ (f13 u w _ _ (by omega)) ?_
        rw [w5 (by omega)]
        simp (config := {implicitDefEqProofs := false, maxSteps := 4000000}) (disch := omega) only [push_cast, c4, Nat.reduceAdd, Nat.reduceSub, Nat.reduceMul, Nat.reduceBEq, Int.reduceToNat, Int.reduceNeg, Int.reduceLE, Int.reduceLT, reduceCtorEq]
        refine callW_eq _ _ (f7) ?_
        simp (config := {implicitDefEqProofs := false, maxSteps := 4000000}) (disch := omega) only [push_cast, c4, Nat.reduceAdd, Nat.reduceSub, Nat.reduceMul, Nat.reduceBEq, Int.reduceToNat, Int.reduceNeg, Int.reduceLE, Int.reduceLT, reduceCtorEq]
      · refine callW_eq _ _ (f7) ?_
        simp (config := {implicitDefEqProofs := false, maxSteps := 4000000}) (disch := omega) only [push_cast, c4, Nat.reduceAdd, Nat.reduceSub, Nat.reduceMul, Nat.reduceBEq, Int.reduceToNat, Int.reduceNeg, Int.reduceLE, Int.reduceLT, reduceCtorEq]
    · refine ⟨fun h => by simp at h; omega, fun _ => ⟨fun _ => ⟨fun _ => ?_, fun h => absurd rfl h⟩, fun h => by omega⟩⟩
      refine callW_eq _ _ (f8' a z _ u k hV (by omega) hx) ?_
      rw [hsu]
      simp (config := {implicitDefEqProofs := false, maxSteps := 4000000}) (disch := omega) only [push_cast, c4, Nat.reduceAdd, Nat.reduceSub, Nat.reduceMul, Nat.reduceBEq, Int.reduceToNat, Int.reduceNeg, Int.reduceLE, Int.reduceLT, reduceCtorEq]
      refine ⟨fun h1 => ?_, fun h1 => by omega⟩
      refine callW_eq _ _ (f7) ?_
      simp (config := {implicitDefEqProofs := false, maxSteps := 4000000}) (disch := omega) only [push_cast, c4, Nat.reduceAdd, Nat.reduceSub, Nat.reduceMul, Nat.reduceBEq, Int.reduceToNat, Int.reduceNeg, Int.reduceLE, Int.reduceLT, reduceCtorEq]
end Go.AM
end

/-
  Plain facts on the suite as the reference makes it; no program in sight.
-/
import Derived.Test.YtdfocobojkmenaaP4
set_option linter.unusedVariables false
set_option linter.unusedSimpArgs false
set_option linter.unusedSectionVars false
set_option linter.unnecessarySimpa false

/-! text PlRef -/
section
namespace Go.AM
open Go
/-! the suite as the reference makes it -/
def stpL (k : Nat) (B : List (List Int)) : List (List Int) := B.flatMap fun b => (List.range k).map fun x : Nat => b ++ [(x : Int)]
/-- the words of i letters more -/
def lvl (k : Nat) (C : List (List Int)) : Nat → List (List Int)
  | 0 => C
  | i + 1 => onceL (stpL k (lvl k C i))
/-- the words of at most i letters more -/
def allV (k : Nat) (C : List (List Int)) : Nat → List (List Int)
  | 0 => C
  | i + 1 => allV k C i ++ lvl k C (i + 1)
/-- the words that are longer by a letter, so far -/
def stpP (k : Nat) (B : List (List Int)) (j x : Nat) : List (List Int) := stpL k (B.take j) ++ (List.range x).map fun x : Nat => B.getD j [] ++ [(x : Int)]
theorem stpP_x {k : Nat} {B : List (List Int)} {j x : Nat} : stpP k B j (x + 1) = stpP k B j x ++ [B.getD j [] ++ [(x : Int)]] := by
  simp [stpP, List.range_succ]
theorem stpP_j {k : Nat} {B : List (List Int)} {j : Nat} (h : j < B.length) : stpP k B (j + 1) 0 = stpP k B j k := by
  have e1 : B.getD j [] = B[j] := by simp [List.getD, h]
  unfold stpP stpL
  rw [List.take_succ_eq_append_getElem h, e1]
  simp only [List.flatMap_append, List.flatMap_cons, List.flatMap_nil, List.append_nil, List.range_zero, List.map_nil]
theorem stpP_end {k : Nat} {B : List (List Int)} {j : Nat} (h : B.length ≤ j) : stpP k B j 0 = stpL k B := by
  simp [stpP, List.take_of_length_le h]
theorem stpL_len {k : Nat} : ∀ {B : List (List Int)}, (stpL k B).length = B.length * k
  | [] => by simp [stpL]
  | b :: B => by
    have h := stpL_len (k := k) (B := B)
    have e : stpL k (b :: B) = ((List.range k).map fun x : Nat => b ++ [(x : Int)]) ++ stpL k B := rfl
    rw [e, List.length_append, h, List.length_map, List.length_range, List.length_cons, Nat.add_mul]; omega
theorem stpP_len {k : Nat} (hk : k ≤ 6) {B : List (List Int)} {j x : Nat} (hx : x ≤ k) : (stpP k B j x).length ≤ (B.length + 1) * 6 := by
  unfold stpP
  rw [List.length_append, stpL_len, List.length_map, List.length_range, List.length_take]
  have : min j B.length * k ≤ B.length * 6 := Nat.mul_le_mul (Nat.min_le_right _ _) hk
  omega
theorem mem_stpL {k : Nat} {B : List (List Int)} {p : List Int} : p ∈ stpL k B ↔ ∃ b ∈ B, ∃ x : Int, (0 ≤ x ∧ x < k) ∧ p = b ++ [x] := by
  simp only [stpL, List.mem_flatMap, List.mem_map, List.mem_range]
  constructor
  · rintro ⟨b, hb, x, hx, rfl⟩; exact ⟨b, hb, x, ⟨by omega, by omega⟩, rfl⟩
  · rintro ⟨b, hb, x, hx, rfl⟩; exact ⟨b, hb, x.toNat, by omega, by rw [show ((x.toNat : Nat) : Int) = x by omega]⟩
theorem mem_lvl {k : Nat} {C : List (List Int)} : ∀ {i : Nat} {p : List Int}, p ∈ lvl k C i ↔ ∃ u ∈ C, ∃ v : List Int, v.length = i ∧ (∀ z ∈ v, 0 ≤ z ∧ z < k) ∧ p = u ++ v
  | 0, p => by
    constructor
    · intro h; exact ⟨p, h, [], rfl, by simp, by simp⟩
    · rintro ⟨u, hu, v, hv, _, rfl⟩
      rw [List.length_eq_zero_iff.1 hv, List.append_nil]; exact hu
  | i + 1, p => by
    unfold lvl
    rw [mem_onceL, mem_stpL]
    constructor
    · rintro ⟨b, hb, x, hx, rfl⟩
      obtain ⟨u, hu, v, hv, hl, rfl⟩ := mem_lvl.1 hb
      refine ⟨u, hu, v ++ [x], by simp [hv], fun z hz => ?_, by simp⟩
      rcases List.mem_append.1 hz with hz | hz
      · exact hl z hz
      · simp only [List.mem_singleton] at hz; omega
    · rintro ⟨u, hu, v, hv, hl, rfl⟩
      obtain ⟨v', y, rfl⟩ : ∃ v' y, v = v' ++ [y] := ⟨v.dropLast, v.getLast (fun e => by simp [e] at hv), (List.dropLast_concat_getLast _).symm⟩
      refine ⟨u ++ v', mem_lvl.2 ⟨u, hu, v', by simpa using hv, fun z hz => hl z (by simp [hz]), rfl⟩, y, hl y (by simp), by simp⟩
theorem mem_allV {k : Nat} {C : List (List Int)} : ∀ {i : Nat} {p : List Int}, p ∈ allV k C i ↔ ∃ u ∈ C, ∃ v : List Int, v.length ≤ i ∧ (∀ z ∈ v, 0 ≤ z ∧ z < k) ∧ p = u ++ v
  | 0, p => by
    have := mem_lvl (k := k) (C := C) (i := 0) (p := p)
    unfold lvl at this
    unfold allV
    rw [this]
    simp only [Nat.le_zero_eq]
  | i + 1, p => by
    unfold allV
    rw [List.mem_append, mem_allV, mem_lvl]
    constructor
    · rintro (⟨u, hu, v, hv, h⟩ | ⟨u, hu, v, hv, h⟩)
      · exact ⟨u, hu, v, by omega, h⟩
      · exact ⟨u, hu, v, by omega, h⟩
    · rintro ⟨u, hu, v, hv, h⟩
      by_cases e : v.length ≤ i
      · exact .inl ⟨u, hu, v, e, h⟩
      · exact .inr ⟨u, hu, v, by omega, h⟩
theorem lvl_len {k : Nat} (hk : k ≤ 6) {C : List (List Int)} {i : Nat} : (lvl k C (i + 1)).length ≤ (lvl k C i).length * 6 := by
  refine Nat.le_trans (onceL_length_le _) ?_
  rw [stpL_len]
  exact Nat.mul_le_mul_left _ hk
theorem lvl_sm {k : Nat} (hk : k ≤ 6) {C : List (List Int)} (hC : C.length ≤ 60) {i : Nat} (hi : i ≤ 3) : (lvl k C i).length ≤ 12960 ∧ (allV k C i).length ≤ 15540 := by
  have h0 : lvl k C 0 = C := rfl
  have a0 : allV k C 0 = C := rfl
  have h1 : (lvl k C 1).length ≤ (lvl k C 0).length * 6 := lvl_len hk
  have h2 : (lvl k C 2).length ≤ (lvl k C 1).length * 6 := lvl_len hk
  have h3 : (lvl k C 3).length ≤ (lvl k C 2).length * 6 := lvl_len hk
  have a1 : (allV k C 1).length = (allV k C 0).length + (lvl k C 1).length := List.length_append
  have a2 : (allV k C 2).length = (allV k C 1).length + (lvl k C 2).length := List.length_append
  have a3 : (allV k C 3).length = (allV k C 2).length + (lvl k C 3).length := List.length_append
  rw [h0] at h1
  rw [a0] at a1
  rcases (by omega : i = 0 ∨ i = 1 ∨ i = 2 ∨ i = 3) with rfl | rfl | rfl | rfl
  · rw [h0, a0]; omega
  · omega
  · omega
  · omega
/-- the words of the one, each followed by the words of the other -/
def catL (A E : List (List Int)) : List (List Int) := A.flatMap fun a => E.map fun w => a ++ w
def catP (A E : List (List Int)) (i j : Nat) : List (List Int) := catL (A.take i) E ++ (E.take j).map fun w => A.getD i [] ++ w
theorem catP_j {A E : List (List Int)} {i j : Nat} (h : j < E.length) : catP A E i (j + 1) = catP A E i j ++ [A.getD i [] ++ E.getD j []] := by
  have e1 : E.getD j [] = E[j] := by simp [List.getD, h]
  unfold catP
  rw [List.take_succ_eq_append_getElem h, e1, List.map_append, List.append_assoc]
  rfl
theorem catP_i {A E : List (List Int)} {i : Nat} (h : i < A.length) : catP A E (i + 1) 0 = catP A E i E.length := by
  have e1 : A.getD i [] = A[i] := by simp [List.getD, h]
  unfold catP catL
  rw [List.take_succ_eq_append_getElem h, e1, List.take_of_length_le (Nat.le_refl _)]
  simp only [List.flatMap_append, List.flatMap_cons, List.flatMap_nil, List.append_nil, List.take_zero, List.map_nil]
theorem catP_end {A E : List (List Int)} {i : Nat} (h : A.length ≤ i) : catP A E i 0 = catL A E := by
  simp [catP, List.take_of_length_le h]
theorem catL_len {E : List (List Int)} : ∀ {A : List (List Int)}, (catL A E).length = A.length * E.length
  | [] => by simp [catL]
  | a :: A => by
    have h := catL_len (E := E) (A := A)
    have e : catL (a :: A) E = (E.map fun w => a ++ w) ++ catL A E := rfl
    rw [e, List.length_append, h, List.length_map, List.length_cons, Nat.add_mul]; omega
theorem catP_len {A E : List (List Int)} {i j : Nat} (hA : A.length ≤ 15540) (hE : E.length ≤ 3600) : (catP A E i j).length ≤ 55948000 := by
  unfold catP
  rw [List.length_append, catL_len, List.length_map, List.length_take, List.length_take]
  have h1 : min i A.length * E.length ≤ 15540 * 3600 := Nat.mul_le_mul (by omega) hE
  omega
theorem mem_catL {A E : List (List Int)} {p : List Int} : p ∈ catL A E ↔ ∃ a ∈ A, ∃ w ∈ E, p = a ++ w := by
  simp only [catL, List.mem_flatMap, List.mem_map]
  constructor
  · rintro ⟨a, ha, w, hw, rfl⟩; exact ⟨a, ha, w, hw, rfl⟩
  · rintro ⟨a, ha, w, hw, rfl⟩; exact ⟨a, ha, w, hw, rfl⟩
/-- how many words of at most i letters there are -/
def geo (k : Nat) : Nat → Nat
  | 0 => 1
  | i + 1 => geo k i + k ^ (i + 1)
theorem geo_mul {k : Nat} : ∀ i, geo k (i + 1) = 1 + k * geo k i
  | 0 => by simp [geo]
  | i + 1 => by
    have h := geo_mul (k := k) i
    have e1 : geo k (i + 1 + 1) = geo k (i + 1) + k ^ (i + 1 + 1) := rfl
    have e2 : geo k (i + 1) = geo k i + k ^ (i + 1) := rfl
    rw [e1]
    conv => rhs; rw [e2, Nat.mul_add]
    rw [h, Nat.pow_succ k (i + 1), Nat.mul_comm (k ^ (i + 1)) k]; omega
theorem pow_sm {k i : Nat} (hk : k ≤ 6) (hi : i ≤ 3) : k ^ i ≤ 216 := by
  have h1 : k ^ i ≤ 6 ^ i := Nat.pow_le_pow_left hk i
  have h2 : (6 : Nat) ^ i ≤ 6 ^ 3 := Nat.pow_le_pow_right (by omega) hi
  omega
theorem geo_sm {k i : Nat} (hk : k ≤ 6) (hi : i ≤ 3) : geo k i ≤ 649 := by
  have h1 := pow_sm hk (i := 1) (by omega)
  have h2 := pow_sm hk (i := 2) (by omega)
  have h3 := pow_sm hk (i := 3) (by omega)
  have g1 : geo k 1 = 1 + k ^ 1 := rfl
  have g2 : geo k 2 = geo k 1 + k ^ 2 := rfl
  have g3 : geo k 3 = geo k 2 + k ^ 3 := rfl
  have g0 : geo k 0 = 1 := rfl
  rcases (by omega : i = 0 ∨ i = 1 ∨ i = 2 ∨ i = 3) with rfl | rfl | rfl | rfl <;> omega
end Go.AM
end

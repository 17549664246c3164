/-
  Plain facts on automata and sets; no program in sight.
-/
import Derived.Test.YtkpoffjimfiabaaF4
import Derived.Lib.SlicesCompact
set_option linter.unusedVariables false
set_option linter.unusedSimpArgs false
set_option linter.unusedSectionVars false
set_option linter.unnecessarySimpa false

section
namespace Go.AM
open Go Go.Proofs
def leadG (a : List (List Int)) (s : Int) : List Int → Int
 | [] => s
 | x :: r => leadG a ((a.getD s.toNat []).getD x.toNat 0) r
theorem leadG_snoc (a : List (List Int)) : ∀ (w : List Int) (s : Int) (x : Int), leadG a s (w ++ [x]) = (a.getD (leadG a s w).toNat []).getD x.toNat 0
 | [], _, _ => rfl
 | y :: w, s, x => by simp only [List.cons_append, leadG]; exact leadG_snoc a w _ x
theorem leadG_take (a : List (List Int)) (s : Int) (w : List Int) (i : Nat) (h : i < w.length) : leadG a s (w.take (i + 1)) = (a.getD (leadG a s (w.take i)).toNat []).getD (w.getD i 0).toNat 0 := by
 rw [List.take_succ_eq_append_getElem h, leadG_snoc]
 simp [h]
structure Vld (a : List (List Int)) (k : Nat) : Prop where
 n1 : 1 ≤ a.length
 n2 : a.length ≤ 60
 k1 : 1 ≤ k
 k2 : k ≤ 6
 row : ∀ r ∈ a, r.length = k ∧ ∀ t ∈ r, 0 ≤ t ∧ t < a.length
theorem Vld.at {a : List (List Int)} {k : Nat} (h : Vld a k) {s x : Int} (h1 : 0 ≤ s) (h2 : s < a.length) (h3 : 0 ≤ x) (h4 : x < k) : (a.getD s.toNat []).length = k ∧ 0 ≤ (a.getD s.toNat []).getD x.toNat 0 ∧ (a.getD s.toNat []).getD x.toNat 0 < a.length := by
 have hs : s.toNat < a.length := by omega
 have e : a.getD s.toNat [] = a[s.toNat] := by simp [hs]
 have hr := h.row a[s.toNat] (List.getElem_mem hs)
 rw [e]
 refine ⟨hr.1, ?_⟩
 have hx : x.toNat < a[s.toNat].length := by rw [hr.1]; omega
 have e2 : a[s.toNat].getD x.toNat 0 = a[s.toNat][x.toNat] := by simp [hx]
 rw [e2]
 exact hr.2 _ (List.getElem_mem hx)
theorem Vld.lead {a : List (List Int)} {k : Nat} (h : Vld a k) : ∀ (w : List Int) {s : Int}, 0 ≤ s → s < a.length → (∀ x ∈ w, 0 ≤ x ∧ x < k) → 0 ≤ leadG a s w ∧ leadG a s w < a.length
 | [], s, h1, h2, _ => ⟨h1, h2⟩
 | x :: w, s, h1, h2, hw => by
  obtain ⟨h3, h4⟩ := hw x (by simp)
  obtain ⟨_, h5, h6⟩ := h.at h1 h2 h3 h4
  exact h.lead w h5 h6 fun y hy => hw y (by simp [hy])
theorem Vld.k0 {a : List (List Int)} {k : Nat} (h : Vld a k) : (a.getD 0 []).length = k := by
 have := (h.at (s := 0) (x := 0) (by omega) (by have := h.n1; omega) (by omega) (by have := h.k1; omega)).1
 simpa using this
theorem getD_mem {l : List Int} {i : Nat} (h : i < l.length) : l.getD i 0 ∈ l := by
 have : l.getD i 0 = l[i] := by simp [h]
 rw [this]; exact List.getElem_mem h
open Classical in
noncomputable def vldB (a : List (List Int)) : Bool := decide (Vld a (a.getD 0 []).length)
theorem vldB_iff {a : List (List Int)} : vldB a = true ↔ Vld a (a.getD 0 []).length := by
 simp only [vldB, decide_eq_true_eq]
theorem vldB_false {a : List (List Int)} (h : ¬ Vld a (a.getD 0 []).length) : false = vldB a := by
 cases e : vldB a with
 | false => rfl
 | true => exact absurd (vldB_iff.1 e) h
theorem getD_mem' {l : List (List Int)} {i : Nat} (h : i < l.length) : l.getD i [] ∈ l := by
 have : l.getD i [] = l[i] := by simp [h]
 rw [this]; exact List.getElem_mem h
def belowB (l : List Int) (n : Int) : Bool := l.all fun x => decide (0 ≤ x ∧ x < n)
theorem belowB_iff {l : List Int} {n : Int} : belowB l n = true ↔ ∀ x ∈ l, 0 ≤ x ∧ x < n := by simp [belowB, List.all_eq_true]
def wordB (k : Nat) (w : List Int) : Bool := decide (w.length ≤ 40000) && belowB w k
theorem wordB_iff {k : Nat} {w : List Int} : wordB k w = true ↔ w.length ≤ 40000 ∧ ∀ x ∈ w, 0 ≤ x ∧ x < k := by simp [wordB, belowB_iff]
theorem all_of_getD {l : List Int} {p : Int → Prop} (h : ∀ j, j < l.length → p (l.getD j 0)) : ∀ x ∈ l, p x := fun x hx => by
 obtain ⟨j, hj, rfl⟩ := List.getElem_of_mem hx
 have := h j hj
 rwa [show l.getD j 0 = l[j] by simp [hj]] at this
theorem ints_eq' {x y : List Int} (h : x.length = y.length) (he : ∀ j, j < x.length → x.getD j 0 = y.getD j 0) : x = y := by
 refine List.ext_getElem h fun j h1 h2 => ?_
 have := he j h1
 simpa [List.getD, h1, h2] using this
end Go.AM
end

section
namespace Go.AM
open Go
theorem lt_list_ext : ∀ {l m : List Int}, l.Pairwise (· < ·) → m.Pairwise (· < ·) → (∀ x, x ∈ l ↔ x ∈ m) → l = m
 | [], [], _, _, _ => rfl
 | [], y :: m, _, _, h => absurd ((h y).2 (by simp)) (by simp)
 | x :: l, [], _, _, h => absurd ((h x).1 (by simp)) (by simp)
 | x :: l, y :: m, hl, hm, h => by
  obtain ⟨h1, h2⟩ := List.pairwise_cons.1 hl
  obtain ⟨h3, h4⟩ := List.pairwise_cons.1 hm
  have e : x = y := by
   have a := (h x).1 (by simp)
   have b := (h y).2 (by simp)
   rcases List.mem_cons.1 a with a | a
   ·exact a
   ·rcases List.mem_cons.1 b with b | b
    ·exact b.symm
    ·have := h3 x a; have := h1 y b; omega
  subst e
  rw [lt_list_ext h2 h4 fun z => ?_]
  constructor
  ·intro hz
   rcases List.mem_cons.1 ((h z).1 (by simp [hz])) with e | e
   ·have := h1 z hz; omega
   ·exact e
  ·intro hz
   rcases List.mem_cons.1 ((h z).2 (by simp [hz])) with e | e
   ·have := h3 z hz; omega
   ·exact e
def sortL (l : List Int) : List Int := l.mergeSort fun x y => decide (x ≤ y)
theorem sortL_le (l : List Int) : (sortL l).Pairwise (· ≤ ·) := by
 have := List.pairwise_mergeSort (le := fun x y : Int => decide (x ≤ y)) (fun a b c h1 h2 => by simp at *; omega) (fun a b => by simp; omega) l
 exact this.imp fun h => by simpa using h
theorem mem_sortL {l : List Int} {x : Int} : x ∈ sortL l ↔ x ∈ l := by simp [sortL, List.mem_mergeSort]
theorem sortL_len (l : List Int) : (sortL l).length = l.length := by simp [sortL, List.length_mergeSort]
def fromTo (n : Nat) (p : Int → Bool) : List Int := ((List.range n).map fun (i : Nat) => (i : Int)).filter p
theorem fromTo_lt (n : Nat) (p : Int → Bool) : (fromTo n p).Pairwise (· < ·) := by
 refine List.Pairwise.filter _ ?_
 rw [List.pairwise_map]
 exact List.pairwise_lt_range.imp fun h => by omega
theorem mem_fromTo {n : Nat} {p : Int → Bool} {x : Int} : x ∈ fromTo n p ↔ (0 ≤ x ∧ x < n) ∧ p x = true := by
 simp only [fromTo, List.mem_filter, List.mem_map, List.mem_range]
 constructor
 ·rintro ⟨⟨i, h, rfl⟩, hp⟩; exact ⟨⟨by omega, by omega⟩, hp⟩
 ·rintro ⟨⟨h1, h2⟩, hp⟩; exact ⟨⟨x.toNat, by omega, by omega⟩, hp⟩
theorem fromTo_len (n : Nat) (p : Int → Bool) : (fromTo n p).length ≤ n := by
 have := List.length_filter_le p ((List.range n).map fun (i : Nat) => (i : Int))
 simpa [fromTo] using this
end Go.AM
end

section
namespace Go.AM
open Go
def setOk (n : Nat) (l : List Int) : Prop := (∀ x ∈ l, 0 ≤ x ∧ x < n) ∧ l.Pairwise (· < ·)
instance (n : Nat) (l : List Int) : Decidable (setOk n l) := by unfold setOk; exact inferInstance
def setB (n : Nat) (l : List Int) : Bool := decide (setOk n l)
theorem setOk.len {n : Nat} {l : List Int} (h : setOk n l) : l.length ≤ n := by
 have e : l = fromTo n (fun x => decide (x ∈ l)) := lt_list_ext h.2 (fromTo_lt _ _) fun x => by
  rw [mem_fromTo]; constructor
  ·intro hx; exact ⟨h.1 x hx, by simpa using hx⟩
  ·intro hx; simpa using hx.2
 rw [e]; exact fromTo_len _ _
theorem upto_succ {p : Nat → Prop} {i : Nat} (h : ∀ j, j < i → p j) (hi : p i) : ∀ j, j < i + 1 → p j := fun j hj => by
 rcases Nat.lt_succ_iff_lt_or_eq.1 hj with hj | rfl
 ·exact h j hj
 ·exact hi
theorem vldB_true {a : List (List Int)} (h1 : a.length ≠ 0) (h2 : a.length ≤ 60) (h3 : (a.getD 0 []).length ≠ 0) (h4 : (a.getD 0 []).length ≤ 6) (h : ∀ j, j < a.length → (a.getD j []).length = (a.getD 0 []).length ∧ belowB (a.getD j []) a.length = true) : true = vldB a := by
 refine (vldB_iff.2 ⟨by omega, h2, by omega, h4, fun r hr => ?_⟩).symm
 obtain ⟨j, hj, rfl⟩ := List.getElem_of_mem hr
 have := h j hj
 rw [show a.getD j [] = a[j] by simp [hj]] at this
 exact ⟨this.1, belowB_iff.1 this.2⟩
def RunR (a : List (List Int)) (s : Int) (word : List Int) (r e : Int) : Prop :=
 (vldB a = false ∧ e = 1 ∧ r = 0) ∨ (vldB a = true ∧ (¬ (0 ≤ s ∧ s < a.length) ∨ wordB (a.getD 0 []).length word = false) ∧ e = 2 ∧ r = 0) ∨
 (vldB a = true ∧ (0 ≤ s ∧ s < a.length) ∧ wordB (a.getD 0 []).length word = true ∧ e = 0 ∧ r = leadG a s word)
def SetsR (a : List (List Int)) (set word : List Int) (L : List Int) (l : List Int) (e : Int) : Prop :=
 (vldB a = false ∧ e = 1 ∧ l = []) ∨ (vldB a = true ∧ (setB a.length set = false ∨ wordB (a.getD 0 []).length word = false) ∧ e = 2 ∧ l = []) ∨
 (vldB a = true ∧ setB a.length set = true ∧ wordB (a.getD 0 []).length word = true ∧ e = 0 ∧ l = L)
theorem RunR.f1 {a : List (List Int)} {s : Int} {word : List Int} {r e : Int} (h : RunR a s word r e) (hv : vldB a = false) : e = 1 ∧ r = 0 := by
 rcases h with ⟨_, h⟩ | ⟨h, _⟩ | ⟨h, _⟩
 ·exact h
 ·rw [hv] at h; cases h
 ·rw [hv] at h; cases h
theorem RunR.f2 {a : List (List Int)} {s : Int} {word : List Int} {r e : Int} (h : RunR a s word r e) (hv : vldB a = true) (hb : ¬ (0 ≤ s ∧ s < a.length) ∨ wordB (a.getD 0 []).length word = false) : e = 2 ∧ r = 0 := by
 rcases h with ⟨h, _⟩ | ⟨_, _, h⟩ | ⟨_, h1, h2, _⟩
 ·rw [hv] at h; cases h
 ·exact h
 ·rcases hb with hb | hb
  ·exact absurd h1 hb
  ·rw [hb] at h2; cases h2
theorem SetsR.f1 {a : List (List Int)} {set word L l : List Int} {e : Int} (h : SetsR a set word L l e) (hv : vldB a = false) : e = 1 ∧ l = [] := by
 rcases h with ⟨_, h⟩ | ⟨h, _⟩ | ⟨h, _⟩
 ·exact h
 ·rw [hv] at h; cases h
 ·rw [hv] at h; cases h
theorem SetsR.f2 {a : List (List Int)} {set word L l : List Int} {e : Int} (h : SetsR a set word L l e) (hv : vldB a = true) (hb : setB a.length set = false ∨ wordB (a.getD 0 []).length word = false) : e = 2 ∧ l = [] := by
 rcases h with ⟨h, _⟩ | ⟨_, _, h⟩ | ⟨_, h1, h2, _⟩
 ·rw [hv] at h; cases h
 ·exact h
 ·rcases hb with hb | hb
  ·rw [hb] at h1; cases h1
  ·rw [hb] at h2; cases h2
end Go.AM
end

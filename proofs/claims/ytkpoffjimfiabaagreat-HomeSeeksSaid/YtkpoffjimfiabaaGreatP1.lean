/-
  Plain facts on automata and sets; no program in sight.
-/
import Derived.Test.YtkpoffjimfiabaaGreatF4
import Derived.Lib.SlicesCompact
set_option linter.unusedVariables false
set_option linter.unusedSimpArgs false
set_option linter.unusedSectionVars false
set_option linter.unnecessarySimpa false

section
namespace Go.AM
open Go Go.Proofs
def leadG (a : List (List Int)) (s : Int) : List Int → Int
 | [] => s
 | x :: r => leadG a ((a.getD s.toNat []).getD x.toNat 0) r
theorem leadG_snoc (a : List (List Int)) : ∀ (w : List Int) (s : Int) (x : Int), leadG a s (w ++ [x]) = (a.getD (leadG a s w).toNat []).getD x.toNat 0
 | [], _, _ => rfl
 | y :: w, s, x => by simp only [List.cons_append, leadG]; exact leadG_snoc a w _ x
theorem leadG_take (a : List (List Int)) (s : Int) (w : List Int) (i : Nat) (h : i < w.length) : leadG a s (w.take (i + 1)) = (a.getD (leadG a s (w.take i)).toNat []).getD (w.getD i 0).toNat 0 := by
 rw [List.take_succ_eq_append_getElem h, leadG_snoc]
 simp [h]
structure Vld (a : List (List Int)) (k : Nat) : Prop where
 n1 : 1 ≤ a.length
 n2 : a.length ≤ 60
 k1 : 1 ≤ k
 k2 : k ≤ 6
 row : ∀ r ∈ a, r.length = k ∧ ∀ t ∈ r, 0 ≤ t ∧ t < a.length
theorem Vld.at {a : List (List Int)} {k : Nat} (h : Vld a k) {s x : Int} (h1 : 0 ≤ s) (h2 : s < a.length) (h3 : 0 ≤ x) (h4 : x < k) : (a.getD s.toNat []).length = k ∧ 0 ≤ (a.getD s.toNat []).getD x.toNat 0 ∧ (a.getD s.toNat []).getD x.toNat 0 < a.length := by
 have hs : s.toNat < a.length := by omega
 have e : a.getD s.toNat [] = a[s.toNat] := by simp [hs]
 have hr := h.row a[s.toNat] (List.getElem_mem hs)
 rw [e]
 refine ⟨hr.1, ?_⟩
 have hx : x.toNat < a[s.toNat].length := by rw [hr.1]; omega
 have e2 : a[s.toNat].getD x.toNat 0 = a[s.toNat][x.toNat] := by simp [hx]
 rw [e2]
 exact hr.2 _ (List.getElem_mem hx)
theorem Vld.lead {a : List (List Int)} {k : Nat} (h : Vld a k) : ∀ (w : List Int) {s : Int}, 0 ≤ s → s < a.length → (∀ x ∈ w, 0 ≤ x ∧ x < k) → 0 ≤ leadG a s w ∧ leadG a s w < a.length
 | [], s, h1, h2, _ => ⟨h1, h2⟩
 | x :: w, s, h1, h2, hw => by
  obtain ⟨h3, h4⟩ := hw x (by simp)
  obtain ⟨_, h5, h6⟩ := h.at h1 h2 h3 h4
  exact h.lead w h5 h6 fun y hy => hw y (by simp [hy])
theorem Vld.k0 {a : List (List Int)} {k : Nat} (h : Vld a k) : (a.getD 0 []).length = k := by
 have := (h.at (s := 0) (x := 0) (by omega) (by have := h.n1; omega) (by omega) (by have := h.k1; omega)).1
 simpa using this
theorem getD_mem {l : List Int} {i : Nat} (h : i < l.length) : l.getD i 0 ∈ l := by
 have : l.getD i 0 = l[i] := by simp [h]
 rw [this]; exact List.getElem_mem h
open Classical in
noncomputable def vldB (a : List (List Int)) : Bool := decide (Vld a (a.getD 0 []).length)
theorem vldB_iff {a : List (List Int)} : vldB a = true ↔ Vld a (a.getD 0 []).length := by
 simp only [vldB, decide_eq_true_eq]
theorem vldB_false {a : List (List Int)} (h : ¬ Vld a (a.getD 0 []).length) : false = vldB a := by
 cases e : vldB a with
 | false => rfl
 | true => exact absurd (vldB_iff.1 e) h
theorem getD_mem' {l : List (List Int)} {i : Nat} (h : i < l.length) : l.getD i [] ∈ l := by
 have : l.getD i [] = l[i] := by simp [h]
 rw [this]; exact List.getElem_mem h
def belowB (l : List Int) (n : Int) : Bool := l.all fun x => decide (0 ≤ x ∧ x < n)
theorem belowB_iff {l : List Int} {n : Int} : belowB l n = true ↔ ∀ x ∈ l, 0 ≤ x ∧ x < n := by simp [belowB, List.all_eq_true]
theorem belowB_false {l : List Int} {n x : Int} (hx : x ∈ l) (h : x < 0 ∨ n ≤ x) : belowB l n = false := by
 cases e : belowB l n with
 | false => rfl
 | true => have := belowB_iff.1 e x hx; omega
def wordB (k : Nat) (w : List Int) : Bool := decide (w.length ≤ 40000) && belowB w k
theorem wordB_iff {k : Nat} {w : List Int} : wordB k w = true ↔ w.length ≤ 40000 ∧ ∀ x ∈ w, 0 ≤ x ∧ x < k := by simp [wordB, belowB_iff]
theorem all_of_getD {l : List Int} {p : Int → Prop} (h : ∀ j, j < l.length → p (l.getD j 0)) : ∀ x ∈ l, p x := fun x hx => by
 obtain ⟨j, hj, rfl⟩ := List.getElem_of_mem hx
 have := h j hj
 rwa [show l.getD j 0 = l[j] by simp [hj]] at this
theorem ints_eq' {x y : List Int} (h : x.length = y.length) (he : ∀ j, j < x.length → x.getD j 0 = y.getD j 0) : x = y := by
 refine List.ext_getElem h fun j h1 h2 => ?_
 have := he j h1
 simpa [List.getD, h1, h2] using this
theorem wordB_false {k : Nat} {w : List Int} {x : Int} (hx : x ∈ w) (h : x < 0 ∨ (k : Int) ≤ x) : wordB k w = false := by
 simp [wordB, belowB_false hx h]
end Go.AM
end

section
namespace Go.AM
open Go
theorem lt_list_ext : ∀ {l m : List Int}, l.Pairwise (· < ·) → m.Pairwise (· < ·) → (∀ x, x ∈ l ↔ x ∈ m) → l = m
 | [], [], _, _, _ => rfl
 | [], y :: m, _, _, h => absurd ((h y).2 (by simp)) (by simp)
 | x :: l, [], _, _, h => absurd ((h x).1 (by simp)) (by simp)
 | x :: l, y :: m, hl, hm, h => by
  obtain ⟨h1, h2⟩ := List.pairwise_cons.1 hl
  obtain ⟨h3, h4⟩ := List.pairwise_cons.1 hm
  have e : x = y := by
   have a := (h x).1 (by simp)
   have b := (h y).2 (by simp)
   rcases List.mem_cons.1 a with a | a
   ·exact a
   ·rcases List.mem_cons.1 b with b | b
    ·exact b.symm
    ·have := h3 x a; have := h1 y b; omega
  subst e
  rw [lt_list_ext h2 h4 fun z => ?_]
  constructor
  ·intro hz
   rcases List.mem_cons.1 ((h z).1 (by simp [hz])) with e | e
   ·have := h1 z hz; omega
   ·exact e
  ·intro hz
   rcases List.mem_cons.1 ((h z).2 (by simp [hz])) with e | e
   ·have := h3 z hz; omega
   ·exact e
theorem compact_lt {zs : List Int} (h : zs.Pairwise (· ≤ ·)) : (Lib.compact zs).Pairwise (· < ·) := by
 unfold Lib.compact Lib.compactUpTo
 rw [List.pairwise_map, List.pairwise_filter]
 refine List.Pairwise.imp_of_mem ?_ (List.pairwise_lt_range)
 intro i j hi hj hij ki kj
 have hj' : j < zs.length := by simpa using hj
 have hi' : i < zs.length := by simpa using hi
 simp only [Lib.keeps, decide_eq_true_eq] at kj
 have g : ∀ k, k < zs.length → zs.toArray[k]! = zs.getD k 0 := fun k hk => by simp [List.getD, hk]
 have mono : ∀ a b, a < b → b < zs.length → zs.getD a 0 ≤ zs.getD b 0 := fun a b hab hb => by
  have := List.pairwise_iff_getElem.1 h a b (by omega) hb hab
  simpa [List.getD, hb, show a < zs.length by omega] using this
 rcases kj with rfl | kj
 ·omega
 ·rw [g j hj', g (j - 1) (by omega)] at kj
  rw [g i hi', g j hj']
  have h1 := mono (j - 1) j (by omega) hj'
  have h2 : zs.getD i 0 ≤ zs.getD (j - 1) 0 := by
   by_cases e : i = j - 1
   ·rw [e]; exact Int.le_refl _
   ·exact mono i (j - 1) (by omega) (by omega)
  omega
theorem mem_compact {zs : List Int} {x : Int} : x ∈ Lib.compact zs ↔ x ∈ zs := by
 have g : ∀ k, k < zs.length → zs.toArray[k]! = zs.getD k 0 := fun k hk => by simp [List.getD, hk]
 unfold Lib.compact Lib.compactUpTo
 simp only [List.mem_map, List.mem_filter, List.mem_range, Lib.keeps, decide_eq_true_eq]
 constructor
 ·rintro ⟨j, ⟨h1, _⟩, rfl⟩
  rw [g j h1]
  exact getD_mem h1
 ·intro hx
  obtain ⟨j, hj, rfl⟩ := List.getElem_of_mem hx
  have key : ∀ j, j < zs.length → ∃ i, (i < zs.length ∧ (i = 0 ∨ zs.toArray[i]! ≠ zs.toArray[i - 1]!)) ∧ zs.toArray[i]! = zs.toArray[j]! := by
   intro j
   induction j with
   | zero => exact fun h => ⟨0, ⟨h, .inl rfl⟩, rfl⟩
   | succ j ih =>
    intro h
    by_cases e : zs.toArray[j + 1]! = zs.toArray[j]!
    ·obtain ⟨i, h1, h2⟩ := ih (by omega)
     exact ⟨i, h1, by rw [h2, e]⟩
    ·exact ⟨j + 1, ⟨h, .inr (by simpa using e)⟩, rfl⟩
  obtain ⟨i, h1, h2⟩ := key j hj
  exact ⟨i, h1, by rw [h2, g j hj]; simp [hj]⟩
def sortL (l : List Int) : List Int := l.mergeSort fun x y => decide (x ≤ y)
theorem sortL_le (l : List Int) : (sortL l).Pairwise (· ≤ ·) := by
 have := List.pairwise_mergeSort (le := fun x y : Int => decide (x ≤ y)) (fun a b c h1 h2 => by simp at *; omega) (fun a b => by simp; omega) l
 exact this.imp fun h => by simpa using h
theorem mem_sortL {l : List Int} {x : Int} : x ∈ sortL l ↔ x ∈ l := by simp [sortL, List.mem_mergeSort]
theorem sortL_len (l : List Int) : (sortL l).length = l.length := by simp [sortL, List.length_mergeSort]
def setL (l : List Int) : List Int := Lib.compact (sortL l)
theorem setL_lt (l : List Int) : (setL l).Pairwise (· < ·) := compact_lt (sortL_le l)
theorem mem_setL {l : List Int} {x : Int} : x ∈ setL l ↔ x ∈ l := by rw [setL, mem_compact, mem_sortL]
theorem setL_unique {l m : List Int} (h : m.Pairwise (· < ·)) (hm : ∀ x, x ∈ m ↔ x ∈ l) : setL l = m := lt_list_ext (setL_lt l) h fun x => by rw [mem_setL, hm]
def fromTo (n : Nat) (p : Int → Bool) : List Int := ((List.range n).map fun (i : Nat) => (i : Int)).filter p
theorem fromTo_lt (n : Nat) (p : Int → Bool) : (fromTo n p).Pairwise (· < ·) := by
 refine List.Pairwise.filter _ ?_
 rw [List.pairwise_map]
 exact List.pairwise_lt_range.imp fun h => by omega
theorem mem_fromTo {n : Nat} {p : Int → Bool} {x : Int} : x ∈ fromTo n p ↔ (0 ≤ x ∧ x < n) ∧ p x = true := by
 simp only [fromTo, List.mem_filter, List.mem_map, List.mem_range]
 constructor
 ·rintro ⟨⟨i, h, rfl⟩, hp⟩; exact ⟨⟨by omega, by omega⟩, hp⟩
 ·rintro ⟨⟨h1, h2⟩, hp⟩; exact ⟨⟨x.toNat, by omega, by omega⟩, hp⟩
theorem fromTo_zero (p : Int → Bool) : fromTo 0 p = [] := rfl
theorem fromTo_succ (n : Nat) (p : Int → Bool) : fromTo (n + 1) p = fromTo n p ++ (if p n then [(n : Int)] else []) := by
 simp only [fromTo, List.range_succ, List.map_append, List.filter_append, List.map_cons, List.map_nil, List.filter_cons, List.filter_nil]
theorem fromTo_len (n : Nat) (p : Int → Bool) : (fromTo n p).length ≤ n := by
 have := List.length_filter_le p ((List.range n).map fun (i : Nat) => (i : Int))
 simpa [fromTo] using this
theorem fromTo_congr {n : Nat} {p q : Int → Bool} (h : ∀ x : Int, 0 ≤ x → x < n → p x = q x) : fromTo n p = fromTo n q :=
 List.filter_congr fun x hx => by
  simp only [List.mem_map, List.mem_range] at hx
  obtain ⟨i, h1, rfl⟩ := hx
  exact h _ (by omega) (by omega)
end Go.AM
end

section
namespace Go.AM
open Go
def setOk (n : Nat) (l : List Int) : Prop := (∀ x ∈ l, 0 ≤ x ∧ x < n) ∧ l.Pairwise (· < ·)
instance (n : Nat) (l : List Int) : Decidable (setOk n l) := by unfold setOk; exact inferInstance
def setB (n : Nat) (l : List Int) : Bool := decide (setOk n l)
theorem pairwise_steps : ∀ {l : List Int}, (∀ j, 0 < j → j < l.length → l.getD (j - 1) 0 < l.getD j 0) → l.Pairwise (· < ·)
 | [], _ => .nil
 | [x], _ => List.pairwise_singleton _ _
 | x :: y :: l, h => by
  have ih : (y :: l).Pairwise (· < ·) := pairwise_steps fun j h0 hj => by
   have := h (j + 1) (by omega) (by simp at hj ⊢; omega)
   obtain ⟨k, rfl⟩ : ∃ k, j = k + 1 := ⟨j - 1, by omega⟩
   simpa using this
  have hxy : x < y := by have := h 1 (by omega) (by simp); simpa using this
  refine List.pairwise_cons.2 ⟨fun z hz => ?_, ih⟩
  rcases List.mem_cons.1 hz with rfl | hz
  ·exact hxy
  ·have := (List.pairwise_cons.1 ih).1 z hz; omega
theorem steps_pairwise {l : List Int} (h : l.Pairwise (· < ·)) {i j : Nat} (hij : i < j) (hj : j < l.length) : l.getD i 0 < l.getD j 0 := by
 have := List.pairwise_iff_getElem.1 h i j (by omega) hj hij
 simpa [List.getD, hj, show i < l.length by omega] using this
theorem setB_true {n : Nat} {l : List Int} (h : ∀ j, j < l.length → (0 ≤ l.getD j 0 ∧ l.getD j 0 < n) ∧ (0 < j → l.getD (j - 1) 0 < l.getD j 0)) : true = setB n l := by
 symm
 rw [setB, decide_eq_true_eq]
 exact ⟨all_of_getD (p := fun x => 0 ≤ x ∧ x < n) fun j hj => (h j hj).1, pairwise_steps fun j h0 hj => (h j hj).2 h0⟩
theorem setB_bad {n : Nat} {l : List Int} {j : Nat} (hj : j < l.length) (h : ¬ (0 ≤ l.getD j 0 ∧ l.getD j 0 < n)) : false = setB n l := by
 symm
 rw [setB, decide_eq_false_iff_not]
 exact fun hs => h (hs.1 _ (getD_mem hj))
theorem setB_bad2 {n : Nat} {l : List Int} {j : Nat} (hj : j < l.length) (h0 : 0 < j) (h : l.getD j 0 ≤ l.getD (j - 1) 0) : false = setB n l := by
 symm
 rw [setB, decide_eq_false_iff_not]
 exact fun hs => by have := steps_pairwise hs.2 (show j - 1 < j by omega) hj; omega
theorem setOk.len {n : Nat} {l : List Int} (h : setOk n l) : l.length ≤ n := by
 have e : l = fromTo n (fun x => decide (x ∈ l)) := lt_list_ext h.2 (fromTo_lt _ _) fun x => by
  rw [mem_fromTo]; constructor
  ·intro hx; exact ⟨h.1 x hx, by simpa using hx⟩
  ·intro hx; simpa using hx.2
 rw [e]; exact fromTo_len _ _
def endsL (a : List (List Int)) (word : List Int) (n : Nat) : List Int := (List.range n).map fun (s : Nat) => leadG a s word
def imageL (a : List (List Int)) (set w : List Int) : List Int := fromTo a.length fun t => set.any fun s => leadG a s w == t
def preL (a : List (List Int)) (met : Int → Bool) (w : List Int) : List Int := fromTo a.length fun s => met (leadG a s w)
theorem imageL_eq {a : List (List Int)} {k : Nat} {set w : List Int} (hv : Vld a k) (hs : setOk a.length set) (hw : ∀ x ∈ w, 0 ≤ x ∧ x < k) : setL (set.map fun s => leadG a s w) = imageL a set w := by
 refine setL_unique (fromTo_lt _ _) fun x => ?_
 rw [imageL, mem_fromTo]
 simp only [List.any_eq_true, beq_iff_eq, List.mem_map]
 constructor
 ·exact fun h => h.2
 ·rintro ⟨s, h1, h2⟩
  have := hv.lead w (hs.1 s h1).1 (hs.1 s h1).2 hw
  exact ⟨by omega, s, h1, h2⟩
def boolsOf (n : Nat) (set : List Int) : List Bool := (List.range n).map fun (i : Nat) => decide ((i : Int) ∈ set)
theorem boolsOf_len (n : Nat) (set : List Int) : (boolsOf n set).length = n := by simp [boolsOf]
theorem boolsOf_get {n : Nat} {set : List Int} {x : Int} (h0 : 0 ≤ x) (h : x < n) : (boolsOf n set).getD x.toNat false = decide (x ∈ set) := by
 have : x.toNat < n := by omega
 simp [boolsOf, List.getD, this, show ((x.toNat : Nat) : Int) = x by omega]
theorem boolsOf_set {n : Nat} {l : List Int} {x : Int} (h0 : 0 ≤ x) (h : x < n) : (boolsOf n l).set x.toNat true = boolsOf n (l ++ [x]) := by
 refine List.ext_getElem (by simp [boolsOf]) fun i h1 h2 => ?_
 simp only [List.getElem_set, boolsOf, List.getElem_map, List.getElem_range, List.mem_append, List.mem_singleton]
 by_cases e : x.toNat = i
 ·simp [e, show (i : Int) = x by omega]
 ·simp [e, show ¬ (i : Int) = x by omega]
theorem boolsOf_nil (n : Nat) : boolsOf n [] = List.replicate n false := by
 refine List.ext_getElem (by simp [boolsOf]) fun i h1 h2 => by simp [boolsOf]
theorem upto_succ {p : Nat → Prop} {i : Nat} (h : ∀ j, j < i → p j) (hi : p i) : ∀ j, j < i + 1 → p j := fun j hj => by
 rcases Nat.lt_succ_iff_lt_or_eq.1 hj with hj | rfl
 ·exact h j hj
 ·exact hi
theorem vldB_true {a : List (List Int)} (h1 : a.length ≠ 0) (h2 : a.length ≤ 60) (h3 : (a.getD 0 []).length ≠ 0) (h4 : (a.getD 0 []).length ≤ 6) (h : ∀ j, j < a.length → (a.getD j []).length = (a.getD 0 []).length ∧ belowB (a.getD j []) a.length = true) : true = vldB a := by
 refine (vldB_iff.2 ⟨by omega, h2, by omega, h4, fun r hr => ?_⟩).symm
 obtain ⟨j, hj, rfl⟩ := List.getElem_of_mem hr
 have := h j hj
 rw [show a.getD j [] = a[j] by simp [hj]] at this
 exact ⟨this.1, belowB_iff.1 this.2⟩
theorem setB_belowF {n : Nat} {l : List Int} (h : belowB l n = false) : false = setB n l := by
 symm; rw [setB, decide_eq_false_iff_not]; exact fun hs => by rw [belowB_iff.2 hs.1] at h; cases h
theorem endsL_getN {a : List (List Int)} {word : List Int} {n : Nat} {x : Nat} (h : x < n) : (endsL a word n).getD x 0 = leadG a x word := by
 simp [endsL, List.getD, h]
theorem endsL_len (a : List (List Int)) (word : List Int) (n : Nat) : (endsL a word n).length = n := by simp [endsL]
theorem endsL_get {a : List (List Int)} {word : List Int} {n : Nat} {x : Int} (h0 : 0 ≤ x) (h : x < n) : (endsL a word n).getD x.toNat 0 = leadG a x word := by
 have h1 : x.toNat < n := by omega
 have h2 : ((x.toNat : Nat) : Int) = x := by omega
 simp [endsL, List.getD, h1, h2]
theorem endsL_succ (a : List (List Int)) (word : List Int) (n : Nat) : endsL a word (n + 1) = endsL a word n ++ [leadG a n word] := by simp [endsL, List.range_succ]
def RunR (a : List (List Int)) (s : Int) (word : List Int) (r e : Int) : Prop :=
 (vldB a = false ∧ e = 1 ∧ r = 0) ∨ (vldB a = true ∧ (¬ (0 ≤ s ∧ s < a.length) ∨ wordB (a.getD 0 []).length word = false) ∧ e = 2 ∧ r = 0) ∨
 (vldB a = true ∧ (0 ≤ s ∧ s < a.length) ∧ wordB (a.getD 0 []).length word = true ∧ e = 0 ∧ r = leadG a s word)
def SetsR (a : List (List Int)) (set word : List Int) (L : List Int) (l : List Int) (e : Int) : Prop :=
 (vldB a = false ∧ e = 1 ∧ l = []) ∨ (vldB a = true ∧ (setB a.length set = false ∨ wordB (a.getD 0 []).length word = false) ∧ e = 2 ∧ l = []) ∨
 (vldB a = true ∧ setB a.length set = true ∧ wordB (a.getD 0 []).length word = true ∧ e = 0 ∧ l = L)
theorem RunR.f1 {a : List (List Int)} {s : Int} {word : List Int} {r e : Int} (h : RunR a s word r e) (hv : vldB a = false) : e = 1 ∧ r = 0 := by
 rcases h with ⟨_, h⟩ | ⟨h, _⟩ | ⟨h, _⟩
 ·exact h
 ·rw [hv] at h; cases h
 ·rw [hv] at h; cases h
theorem RunR.f2 {a : List (List Int)} {s : Int} {word : List Int} {r e : Int} (h : RunR a s word r e) (hv : vldB a = true) (hb : ¬ (0 ≤ s ∧ s < a.length) ∨ wordB (a.getD 0 []).length word = false) : e = 2 ∧ r = 0 := by
 rcases h with ⟨h, _⟩ | ⟨_, _, h⟩ | ⟨_, h1, h2, _⟩
 ·rw [hv] at h; cases h
 ·exact h
 ·rcases hb with hb | hb
  ·exact absurd h1 hb
  ·rw [hb] at h2; cases h2
theorem RunR.f3 {a : List (List Int)} {s : Int} {word : List Int} {r e : Int} (h : RunR a s word r e) (hv : vldB a = true) (h1 : 0 ≤ s ∧ s < a.length) (h2 : wordB (a.getD 0 []).length word = true) : e = 0 ∧ r = leadG a s word := by
 rcases h with ⟨h, _⟩ | ⟨_, h | h, _⟩ | ⟨_, _, _, h⟩
 ·rw [hv] at h; cases h
 ·exact absurd h1 h
 ·rw [h2] at h; cases h
 ·exact h
theorem SetsR.f1 {a : List (List Int)} {set word L l : List Int} {e : Int} (h : SetsR a set word L l e) (hv : vldB a = false) : e = 1 ∧ l = [] := by
 rcases h with ⟨_, h⟩ | ⟨h, _⟩ | ⟨h, _⟩
 ·exact h
 ·rw [hv] at h; cases h
 ·rw [hv] at h; cases h
theorem SetsR.f2 {a : List (List Int)} {set word L l : List Int} {e : Int} (h : SetsR a set word L l e) (hv : vldB a = true) (hb : setB a.length set = false ∨ wordB (a.getD 0 []).length word = false) : e = 2 ∧ l = [] := by
 rcases h with ⟨h, _⟩ | ⟨_, _, h⟩ | ⟨_, h1, h2, _⟩
 ·rw [hv] at h; cases h
 ·exact h
 ·rcases hb with hb | hb
  ·rw [hb] at h1; cases h1
  ·rw [hb] at h2; cases h2
theorem SetsR.f3 {a : List (List Int)} {set word L l : List Int} {e : Int} (h : SetsR a set word L l e) (hv : vldB a = true) (h1 : setB a.length set = true) (h2 : wordB (a.getD 0 []).length word = true) : e = 0 ∧ l = L := by
 rcases h with ⟨h, _⟩ | ⟨_, h | h, _⟩ | ⟨_, _, _, h⟩
 ·rw [hv] at h; cases h
 ·rw [h1] at h; cases h
 ·rw [h2] at h; cases h
 ·exact h
end Go.AM
end

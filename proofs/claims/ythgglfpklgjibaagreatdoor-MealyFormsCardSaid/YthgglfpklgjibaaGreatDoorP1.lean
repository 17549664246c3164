/-
  Plain facts on automata, sets, words, strings and numbers; no program in sight.
-/
import Derived.Test.YthgglfpklgjibaaGreatDoorF4
import Derived.Lib.SlicesCompact
import Derived.Lib.Bytealg
import Derived.Laws.Strings
import Derived.Lib.AtoiAll
import Derived.Lib.SlTrimSet
import Derived.Lib.ItoaNum
import Derived.Lib.Join
set_option linter.unusedVariables false
set_option linter.unusedSimpArgs false
set_option linter.unusedSectionVars false

/-! text PlAuto -/
section
namespace Go.AM
open Go Go.Proofs
/-- where a word leads -/
def leadG (a : List (List Int)) (s : Int) : List Int → Int
  | [] => s
  | x :: r => leadG a ((a.getD s.toNat []).getD x.toNat 0) r
theorem leadG_snoc (a : List (List Int)) : ∀ (w : List Int) (s : Int) (x : Int), leadG a s (w ++ [x]) = (a.getD (leadG a s w).toNat []).getD x.toNat 0
  | [], _, _ => rfl
  | y :: w, s, x => by simp only [List.cons_append, leadG]; exact leadG_snoc a w _ x
theorem leadG_take (a : List (List Int)) (s : Int) (w : List Int) (i : Nat) (h : i < w.length) : leadG a s (w.take (i + 1)) = (a.getD (leadG a s (w.take i)).toNat []).getD (w.getD i 0).toNat 0 := by
  rw [List.take_succ_eq_append_getElem h, leadG_snoc]
  simp [h]
/-- a valid automaton with k letters -/
structure Vld (a : List (List Int)) (k : Nat) : Prop where
  n1 : 1 ≤ a.length
  n2 : a.length ≤ 60
  k1 : 1 ≤ k
  k2 : k ≤ 6
  row : ∀ r ∈ a, r.length = k ∧ ∀ t ∈ r, 0 ≤ t ∧ t < a.length
theorem Vld.at {a : List (List Int)} {k : Nat} (h : Vld a k) {s x : Int} (h1 : 0 ≤ s) (h2 : s < a.length) (h3 : 0 ≤ x) (h4 : x < k) : (a.getD s.toNat []).length = k ∧ 0 ≤ (a.getD s.toNat []).getD x.toNat 0 ∧ (a.getD s.toNat []).getD x.toNat 0 < a.length := by
  have hs : s.toNat < a.length := by omega
  have e : a.getD s.toNat [] = a[s.toNat] := by simp [hs]
  have hr := h.row a[s.toNat] (List.getElem_mem hs)
  rw [e]
  refine ⟨hr.1, ?_⟩
  have hx : x.toNat < a[s.toNat].length := by rw [hr.1]; omega
  have e2 : a[s.toNat].getD x.toNat 0 = a[s.toNat][x.toNat] := by simp [hx]
  rw [e2]
  exact hr.2 _ (List.getElem_mem hx)
theorem Vld.lead {a : List (List Int)} {k : Nat} (h : Vld a k) : ∀ (w : List Int) {s : Int}, 0 ≤ s → s < a.length → (∀ x ∈ w, 0 ≤ x ∧ x < k) → 0 ≤ leadG a s w ∧ leadG a s w < a.length
  | [], s, h1, h2, _ => ⟨h1, h2⟩
  | x :: w, s, h1, h2, hw => by
    obtain ⟨h3, h4⟩ := hw x (by simp)
    obtain ⟨_, h5, h6⟩ := h.at h1 h2 h3 h4
    exact h.lead w h5 h6 fun y hy => hw y (by simp [hy])
theorem Vld.k0 {a : List (List Int)} {k : Nat} (h : Vld a k) : (a.getD 0 []).length = k := by
  have := (h.at (s := 0) (x := 0) (by omega) (by have := h.n1; omega) (by omega) (by have := h.k1; omega)).1
  simpa using this
theorem getD_mem {l : List Int} {i : Nat} (h : i < l.length) : l.getD i 0 ∈ l := by
  have : l.getD i 0 = l[i] := by simp [h]
  rw [this]; exact List.getElem_mem h
open Classical in
noncomputable def vldB (a : List (List Int)) : Bool := decide (Vld a (a.getD 0 []).length)
theorem vldB_iff {a : List (List Int)} : vldB a = true ↔ Vld a (a.getD 0 []).length := by
  simp only [vldB, decide_eq_true_eq]
theorem vldB_false {a : List (List Int)} (h : ¬ Vld a (a.getD 0 []).length) : false = vldB a := by
  cases e : vldB a with
  | false => rfl
  | true => exact absurd (vldB_iff.1 e) h

theorem getD_mem' {l : List (List Int)} {i : Nat} (h : i < l.length) : l.getD i [] ∈ l := by
  have : l.getD i [] = l[i] := by simp [h]
  rw [this]; exact List.getElem_mem h
/-- numbers from 0 to below n -/
def belowB (l : List Int) (n : Int) : Bool := l.all fun x => decide (0 ≤ x ∧ x < n)
theorem belowB_iff {l : List Int} {n : Int} : belowB l n = true ↔ ∀ x ∈ l, 0 ≤ x ∧ x < n := by simp [belowB, List.all_eq_true]
theorem belowB_false {l : List Int} {n x : Int} (hx : x ∈ l) (h : x < 0 ∨ n ≤ x) : belowB l n = false := by
  cases e : belowB l n with
  | false => rfl
  | true => have := belowB_iff.1 e x hx; omega
def wordB (k : Nat) (w : List Int) : Bool := decide (w.length ≤ 40000) && belowB w k
theorem wordB_iff {k : Nat} {w : List Int} : wordB k w = true ↔ w.length ≤ 40000 ∧ ∀ x ∈ w, 0 ≤ x ∧ x < k := by simp [wordB, belowB_iff]
theorem all_of_getD {l : List Int} {p : Int → Prop} (h : ∀ j, j < l.length → p (l.getD j 0)) : ∀ x ∈ l, p x := fun x hx => by
  obtain ⟨j, hj, rfl⟩ := List.getElem_of_mem hx
  have := h j hj
  rwa [show l.getD j 0 = l[j] by simp [hj]] at this
theorem ints_eq' {x y : List Int} (h : x.length = y.length) (he : ∀ j, j < x.length → x.getD j 0 = y.getD j 0) : x = y := by
  refine List.ext_getElem h fun j h1 h2 => ?_
  have := he j h1
  simpa [List.getD, h1, h2] using this
theorem wordB_false {k : Nat} {w : List Int} {x : Int} (hx : x ∈ w) (h : x < 0 ∨ (k : Int) ≤ x) : wordB k w = false := by
  simp [wordB, belowB_false hx h]
end Go.AM
end

/-! text PlSort -/
section
namespace Go.AM
open Go
theorem lt_list_ext : ∀ {l m : List Int}, l.Pairwise (· < ·) → m.Pairwise (· < ·) → (∀ x, x ∈ l ↔ x ∈ m) → l = m
  | [], [], _, _, _ => rfl
  | [], y :: m, _, _, h => absurd ((h y).2 (by simp)) (by simp)
  | x :: l, [], _, _, h => absurd ((h x).1 (by simp)) (by simp)
  | x :: l, y :: m, hl, hm, h => by
    obtain ⟨h1, h2⟩ := List.pairwise_cons.1 hl
    obtain ⟨h3, h4⟩ := List.pairwise_cons.1 hm
    have e : x = y := by
      have a := (h x).1 (by simp)
      have b := (h y).2 (by simp)
      rcases List.mem_cons.1 a with a | a
      · exact a
      · rcases List.mem_cons.1 b with b | b
        · exact b.symm
        · have := h3 x a; have := h1 y b; omega
    subst e
    rw [lt_list_ext h2 h4 fun z => ?_]
    constructor
    · intro hz
      rcases List.mem_cons.1 ((h z).1 (by simp [hz])) with e | e
      · have := h1 z hz; omega
      · exact e
    · intro hz
      rcases List.mem_cons.1 ((h z).2 (by simp [hz])) with e | e
      · have := h3 z hz; omega
      · exact e
theorem compact_lt {zs : List Int} (h : zs.Pairwise (· ≤ ·)) : (Lib.compact zs).Pairwise (· < ·) := by
  unfold Lib.compact Lib.compactUpTo
  rw [List.pairwise_map, List.pairwise_filter]
  refine List.Pairwise.imp_of_mem ?_ (List.pairwise_lt_range)
  intro i j hi hj hij ki kj
  have hj' : j < zs.length := by simpa using hj
  have hi' : i < zs.length := by simpa using hi
  simp only [Lib.keeps, decide_eq_true_eq] at kj
  have g : ∀ k, k < zs.length → zs.toArray[k]! = zs.getD k 0 := fun k hk => by simp [List.getD, hk]
  have mono : ∀ a b, a < b → b < zs.length → zs.getD a 0 ≤ zs.getD b 0 := fun a b hab hb => by
    have := List.pairwise_iff_getElem.1 h a b (by omega) hb hab
    simpa [List.getD, hb, show a < zs.length by omega] using this
  rcases kj with rfl | kj
  · omega
  · rw [g j hj', g (j - 1) (by omega)] at kj
    rw [g i hi', g j hj']
    have h1 := mono (j - 1) j (by omega) hj'
    have h2 : zs.getD i 0 ≤ zs.getD (j - 1) 0 := by
      by_cases e : i = j - 1
      · rw [e]; exact Int.le_refl _
      · exact mono i (j - 1) (by omega) (by omega)
    omega
theorem mem_compact {zs : List Int} {x : Int} : x ∈ Lib.compact zs ↔ x ∈ zs := by
  have g : ∀ k, k < zs.length → zs.toArray[k]! = zs.getD k 0 := fun k hk => by simp [List.getD, hk]
  unfold Lib.compact Lib.compactUpTo
  simp only [List.mem_map, List.mem_filter, List.mem_range, Lib.keeps, decide_eq_true_eq]
  constructor
  · rintro ⟨j, ⟨h1, _⟩, rfl⟩
    rw [g j h1]
    exact getD_mem h1
  · intro hx
    obtain ⟨j, hj, rfl⟩ := List.getElem_of_mem hx
    have key : ∀ j, j < zs.length → ∃ i, (i < zs.length ∧ (i = 0 ∨ zs.toArray[i]! ≠ zs.toArray[i - 1]!)) ∧ zs.toArray[i]! = zs.toArray[j]! := by
      intro j
      induction j with
      | zero => exact fun h => ⟨0, ⟨h, .inl rfl⟩, rfl⟩
      | succ j ih =>
        intro h
        by_cases e : zs.toArray[j + 1]! = zs.toArray[j]!
        · obtain ⟨i, h1, h2⟩ := ih (by omega)
          exact ⟨i, h1, by rw [h2, e]⟩
        · exact ⟨j + 1, ⟨h, .inr (by simpa using e)⟩, rfl⟩
    obtain ⟨i, h1, h2⟩ := key j hj
    exact ⟨i, h1, by rw [h2, g j hj]; simp [hj]⟩
def sortL (l : List Int) : List Int := l.mergeSort fun x y => decide (x ≤ y)
theorem sortL_le (l : List Int) : (sortL l).Pairwise (· ≤ ·) := by
  have := List.pairwise_mergeSort (le := fun x y : Int => decide (x ≤ y)) (fun a b c h1 h2 => by simp at *; omega) (fun a b => by simp; omega) l
  exact this.imp fun h => by simpa using h
theorem mem_sortL {l : List Int} {x : Int} : x ∈ sortL l ↔ x ∈ l := by simp [sortL, List.mem_mergeSort]
theorem sortL_len (l : List Int) : (sortL l).length = l.length := by simp [sortL, List.length_mergeSort]
/-- the elements of a list, in order, each once -/
def setL (l : List Int) : List Int := Lib.compact (sortL l)
theorem setL_lt (l : List Int) : (setL l).Pairwise (· < ·) := compact_lt (sortL_le l)
theorem mem_setL {l : List Int} {x : Int} : x ∈ setL l ↔ x ∈ l := by rw [setL, mem_compact, mem_sortL]
theorem setL_unique {l m : List Int} (h : m.Pairwise (· < ·)) (hm : ∀ x, x ∈ m ↔ x ∈ l) : setL l = m := lt_list_ext (setL_lt l) h fun x => by rw [mem_setL, hm]
/-- the numbers below n with a property, in order -/
def fromTo (n : Nat) (p : Int → Bool) : List Int := ((List.range n).map fun (i : Nat) => (i : Int)).filter p
theorem fromTo_lt (n : Nat) (p : Int → Bool) : (fromTo n p).Pairwise (· < ·) := by
  refine List.Pairwise.filter _ ?_
  rw [List.pairwise_map]
  exact List.pairwise_lt_range.imp fun h => by omega
theorem mem_fromTo {n : Nat} {p : Int → Bool} {x : Int} : x ∈ fromTo n p ↔ (0 ≤ x ∧ x < n) ∧ p x = true := by
  simp only [fromTo, List.mem_filter, List.mem_map, List.mem_range]
  constructor
  · rintro ⟨⟨i, h, rfl⟩, hp⟩; exact ⟨⟨by omega, by omega⟩, hp⟩
  · rintro ⟨⟨h1, h2⟩, hp⟩; exact ⟨⟨x.toNat, by omega, by omega⟩, hp⟩
theorem fromTo_zero (p : Int → Bool) : fromTo 0 p = [] := rfl
theorem fromTo_succ (n : Nat) (p : Int → Bool) : fromTo (n + 1) p = fromTo n p ++ (if p n then [(n : Int)] else []) := by
  simp only [fromTo, List.range_succ, List.map_append, List.filter_append, List.map_cons, List.map_nil, List.filter_cons, List.filter_nil]
theorem fromTo_len (n : Nat) (p : Int → Bool) : (fromTo n p).length ≤ n := by
  have := List.length_filter_le p ((List.range n).map fun (i : Nat) => (i : Int))
  simpa [fromTo] using this
theorem fromTo_congr {n : Nat} {p q : Int → Bool} (h : ∀ x : Int, 0 ≤ x → x < n → p x = q x) : fromTo n p = fromTo n q :=
  List.filter_congr fun x hx => by
    simp only [List.mem_map, List.mem_range] at hx
    obtain ⟨i, h1, rfl⟩ := hx
    exact h _ (by omega) (by omega)
end Go.AM
end

/-! text PlAuto2 -/
section
namespace Go.AM
open Go
def setOk (n : Nat) (l : List Int) : Prop := (∀ x ∈ l, 0 ≤ x ∧ x < n) ∧ l.Pairwise (· < ·)
instance (n : Nat) (l : List Int) : Decidable (setOk n l) := by unfold setOk; exact inferInstance
def setB (n : Nat) (l : List Int) : Bool := decide (setOk n l)
theorem pairwise_steps : ∀ {l : List Int}, (∀ j, 0 < j → j < l.length → l.getD (j - 1) 0 < l.getD j 0) → l.Pairwise (· < ·)
  | [], _ => .nil
  | [x], _ => List.pairwise_singleton _ _
  | x :: y :: l, h => by
    have ih : (y :: l).Pairwise (· < ·) := pairwise_steps fun j h0 hj => by
      have := h (j + 1) (by omega) (by simp at hj ⊢; omega)
      obtain ⟨k, rfl⟩ : ∃ k, j = k + 1 := ⟨j - 1, by omega⟩
      simpa using this
    have hxy : x < y := by have := h 1 (by omega) (by simp); simpa using this
    refine List.pairwise_cons.2 ⟨fun z hz => ?_, ih⟩
    rcases List.mem_cons.1 hz with rfl | hz
    · exact hxy
    · have := (List.pairwise_cons.1 ih).1 z hz; omega
theorem steps_pairwise {l : List Int} (h : l.Pairwise (· < ·)) {i j : Nat} (hij : i < j) (hj : j < l.length) : l.getD i 0 < l.getD j 0 := by
  have := List.pairwise_iff_getElem.1 h i j (by omega) hj hij
  simpa [List.getD, hj, show i < l.length by omega] using this
theorem setB_true {n : Nat} {l : List Int} (h : ∀ j, j < l.length → (0 ≤ l.getD j 0 ∧ l.getD j 0 < n) ∧ (0 < j → l.getD (j - 1) 0 < l.getD j 0)) : true = setB n l := by
  symm
  rw [setB, decide_eq_true_eq]
  exact ⟨all_of_getD (p := fun x => 0 ≤ x ∧ x < n) fun j hj => (h j hj).1, pairwise_steps fun j h0 hj => (h j hj).2 h0⟩
theorem setB_bad {n : Nat} {l : List Int} {j : Nat} (hj : j < l.length) (h : ¬ (0 ≤ l.getD j 0 ∧ l.getD j 0 < n)) : false = setB n l := by
  symm
  rw [setB, decide_eq_false_iff_not]
  exact fun hs => h (hs.1 _ (getD_mem hj))
theorem setB_bad2 {n : Nat} {l : List Int} {j : Nat} (hj : j < l.length) (h0 : 0 < j) (h : l.getD j 0 ≤ l.getD (j - 1) 0) : false = setB n l := by
  symm
  rw [setB, decide_eq_false_iff_not]
  exact fun hs => by have := steps_pairwise hs.2 (show j - 1 < j by omega) hj; omega
theorem setOk.len {n : Nat} {l : List Int} (h : setOk n l) : l.length ≤ n := by
  have e : l = fromTo n (fun x => decide (x ∈ l)) := lt_list_ext h.2 (fromTo_lt _ _) fun x => by
    rw [mem_fromTo]; constructor
    · intro hx; exact ⟨h.1 x hx, by simpa using hx⟩
    · intro hx; simpa using hx.2
  rw [e]; exact fromTo_len _ _
def endsL (a : List (List Int)) (word : List Int) (n : Nat) : List Int := (List.range n).map fun (s : Nat) => leadG a s word
def imageL (a : List (List Int)) (set w : List Int) : List Int := fromTo a.length fun t => set.any fun s => leadG a s w == t
def preL (a : List (List Int)) (met : Int → Bool) (w : List Int) : List Int := fromTo a.length fun s => met (leadG a s w)
theorem imageL_eq {a : List (List Int)} {k : Nat} {set w : List Int} (hv : Vld a k) (hs : setOk a.length set) (hw : ∀ x ∈ w, 0 ≤ x ∧ x < k) : setL (set.map fun s => leadG a s w) = imageL a set w := by
  refine setL_unique (fromTo_lt _ _) fun x => ?_
  rw [imageL, mem_fromTo]
  simp only [List.any_eq_true, beq_iff_eq, List.mem_map]
  constructor
  · exact fun h => h.2
  · rintro ⟨s, h1, h2⟩
    have := hv.lead w (hs.1 s h1).1 (hs.1 s h1).2 hw
    exact ⟨by omega, s, h1, h2⟩
def boolsOf (n : Nat) (set : List Int) : List Bool := (List.range n).map fun (i : Nat) => decide ((i : Int) ∈ set)
theorem boolsOf_len (n : Nat) (set : List Int) : (boolsOf n set).length = n := by simp [boolsOf]
theorem boolsOf_get {n : Nat} {set : List Int} {x : Int} (h0 : 0 ≤ x) (h : x < n) : (boolsOf n set).getD x.toNat false = decide (x ∈ set) := by
  have : x.toNat < n := by omega
  simp [boolsOf, List.getD, this, show ((x.toNat : Nat) : Int) = x by omega]
theorem boolsOf_set {n : Nat} {l : List Int} {x : Int} (h0 : 0 ≤ x) (h : x < n) : (boolsOf n l).set x.toNat true = boolsOf n (l ++ [x]) := by
  refine List.ext_getElem (by simp [boolsOf]) fun i h1 h2 => ?_
  simp only [List.getElem_set, boolsOf, List.getElem_map, List.getElem_range, List.mem_append, List.mem_singleton]
  by_cases e : x.toNat = i
  · simp [e, show (i : Int) = x by omega]
  · simp [e, show ¬ (i : Int) = x by omega]
theorem boolsOf_nil (n : Nat) : boolsOf n [] = List.replicate n false := by
  refine List.ext_getElem (by simp [boolsOf]) fun i h1 h2 => by simp [boolsOf]
theorem upto_succ {p : Nat → Prop} {i : Nat} (h : ∀ j, j < i → p j) (hi : p i) : ∀ j, j < i + 1 → p j := fun j hj => by
  rcases Nat.lt_succ_iff_lt_or_eq.1 hj with hj | rfl
  · exact h j hj
  · exact hi
theorem vldB_true {a : List (List Int)} (h1 : a.length ≠ 0) (h2 : a.length ≤ 60) (h3 : (a.getD 0 []).length ≠ 0) (h4 : (a.getD 0 []).length ≤ 6) (h : ∀ j, j < a.length → (a.getD j []).length = (a.getD 0 []).length ∧ belowB (a.getD j []) a.length = true) : true = vldB a := by
  refine (vldB_iff.2 ⟨by omega, h2, by omega, h4, fun r hr => ?_⟩).symm
  obtain ⟨j, hj, rfl⟩ := List.getElem_of_mem hr
  have := h j hj
  rw [show a.getD j [] = a[j] by simp [hj]] at this
  exact ⟨this.1, belowB_iff.1 this.2⟩
theorem setB_belowF {n : Nat} {l : List Int} (h : belowB l n = false) : false = setB n l := by
  symm; rw [setB, decide_eq_false_iff_not]; exact fun hs => by rw [belowB_iff.2 hs.1] at h; cases h
theorem endsL_getN {a : List (List Int)} {word : List Int} {n : Nat} {x : Nat} (h : x < n) : (endsL a word n).getD x 0 = leadG a x word := by
  simp [endsL, List.getD, h]
theorem endsL_len (a : List (List Int)) (word : List Int) (n : Nat) : (endsL a word n).length = n := by simp [endsL]
theorem endsL_get {a : List (List Int)} {word : List Int} {n : Nat} {x : Int} (h0 : 0 ≤ x) (h : x < n) : (endsL a word n).getD x.toNat 0 = leadG a x word := by
  have h1 : x.toNat < n := by omega
  have h2 : ((x.toNat : Nat) : Int) = x := by omega
  simp [endsL, List.getD, h1, h2]
theorem endsL_succ (a : List (List Int)) (word : List Int) (n : Nat) : endsL a word (n + 1) = endsL a word n ++ [leadG a n word] := by simp [endsL, List.range_succ]
/-- what Run answers -/
def RunR (a : List (List Int)) (s : Int) (word : List Int) (r e : Int) : Prop :=
  (vldB a = false ∧ e = 1 ∧ r = 0) ∨ (vldB a = true ∧ (¬ (0 ≤ s ∧ s < a.length) ∨ wordB (a.getD 0 []).length word = false) ∧ e = 2 ∧ r = 0) ∨
  (vldB a = true ∧ (0 ≤ s ∧ s < a.length) ∧ wordB (a.getD 0 []).length word = true ∧ e = 0 ∧ r = leadG a s word)
/-- what a function over sets answers -/
def SetsR (a : List (List Int)) (set word : List Int) (L : List Int) (l : List Int) (e : Int) : Prop :=
  (vldB a = false ∧ e = 1 ∧ l = []) ∨ (vldB a = true ∧ (setB a.length set = false ∨ wordB (a.getD 0 []).length word = false) ∧ e = 2 ∧ l = []) ∨
  (vldB a = true ∧ setB a.length set = true ∧ wordB (a.getD 0 []).length word = true ∧ e = 0 ∧ l = L)
theorem RunR.f1 {a : List (List Int)} {s : Int} {word : List Int} {r e : Int} (h : RunR a s word r e) (hv : vldB a = false) : e = 1 ∧ r = 0 := by
  rcases h with ⟨_, h⟩ | ⟨h, _⟩ | ⟨h, _⟩
  · exact h
  · rw [hv] at h; cases h
  · rw [hv] at h; cases h
theorem RunR.f2 {a : List (List Int)} {s : Int} {word : List Int} {r e : Int} (h : RunR a s word r e) (hv : vldB a = true) (hb : ¬ (0 ≤ s ∧ s < a.length) ∨ wordB (a.getD 0 []).length word = false) : e = 2 ∧ r = 0 := by
  rcases h with ⟨h, _⟩ | ⟨_, _, h⟩ | ⟨_, h1, h2, _⟩
  · rw [hv] at h; cases h
  · exact h
  · rcases hb with hb | hb
    · exact absurd h1 hb
    · rw [hb] at h2; cases h2
theorem RunR.f3 {a : List (List Int)} {s : Int} {word : List Int} {r e : Int} (h : RunR a s word r e) (hv : vldB a = true) (h1 : 0 ≤ s ∧ s < a.length) (h2 : wordB (a.getD 0 []).length word = true) : e = 0 ∧ r = leadG a s word := by
  rcases h with ⟨h, _⟩ | ⟨_, h | h, _⟩ | ⟨_, _, _, h⟩
  · rw [hv] at h; cases h
  · exact absurd h1 h
  · rw [h2] at h; cases h
  · exact h
theorem SetsR.f1 {a : List (List Int)} {set word L l : List Int} {e : Int} (h : SetsR a set word L l e) (hv : vldB a = false) : e = 1 ∧ l = [] := by
  rcases h with ⟨_, h⟩ | ⟨h, _⟩ | ⟨h, _⟩
  · exact h
  · rw [hv] at h; cases h
  · rw [hv] at h; cases h
theorem SetsR.f2 {a : List (List Int)} {set word L l : List Int} {e : Int} (h : SetsR a set word L l e) (hv : vldB a = true) (hb : setB a.length set = false ∨ wordB (a.getD 0 []).length word = false) : e = 2 ∧ l = [] := by
  rcases h with ⟨h, _⟩ | ⟨_, _, h⟩ | ⟨_, h1, h2, _⟩
  · rw [hv] at h; cases h
  · exact h
  · rcases hb with hb | hb
    · rw [hb] at h1; cases h1
    · rw [hb] at h2; cases h2
theorem SetsR.f3 {a : List (List Int)} {set word L l : List Int} {e : Int} (h : SetsR a set word L l e) (hv : vldB a = true) (h1 : setB a.length set = true) (h2 : wordB (a.getD 0 []).length word = true) : e = 0 ∧ l = L := by
  rcases h with ⟨h, _⟩ | ⟨_, h | h, _⟩ | ⟨_, _, _, h⟩
  · rw [hv] at h; cases h
  · rw [h1] at h; cases h
  · rw [h2] at h; cases h
  · exact h
end Go.AM
end

/-! text PlStr -/
section
namespace Go.AM
open Go
/-- a string by its bytes -/
def bs (l : List UInt8) : ByteArray := ⟨l.toArray⟩
theorem bs_size (l : List UInt8) : (bs l).size = l.length := by simp [bs, ByteArray.size]
theorem bs_data (l : List UInt8) : (bs l).data.toList = l := by simp [bs]
theorem bs_of (s : ByteArray) : bs s.data.toList = s := by simp [bs]
theorem bs_inj {a b : List UInt8} : bs a = bs b ↔ a = b := ⟨fun h => by rw [← bs_data a, h, bs_data], fun h => by rw [h]⟩
theorem bs_append (a b : List UInt8) : bs a ++ bs b = bs (a ++ b) := by
  have : (bs a ++ bs b).data = (bs (a ++ b)).data := by simp [bs]
  exact ByteArray.ext this
theorem bs_extract (l : List UInt8) (a b : Nat) : (bs l).extract a b = bs ((l.take b).drop a) := by
  refine ByteArray.ext ?_
  simp [bs, List.drop_take]
theorem bs_toList (l : List UInt8) : (bs l).toList = l := by
  rw [ByteArray.toList_eq, bs_data]
theorem beq_bytes (a b : List UInt8) : (a == b) = decide (a = b) := by
  rw [Bool.eq_iff_iff]; simp
theorem bytesOf_bs (l : List Int) : bytesOf l = bs (l.map fun n => UInt8.ofNat n.toNat) := rfl
theorem sbyte_bs (l : List UInt8) (i : Int) : sbyte (bs l) i = ((l.getD i.toNat 0).toNat : Int) := by simp [sbyte, bs]
theorem mk_toList (l : List UInt8) : (ByteArray.mk l.toArray).toList = l := by rw [ByteArray.toList_eq]
theorem empty_data : ByteArray.empty.data.toList = [] := rfl
theorem empty_bs : ByteArray.empty = bs [] := rfl
theorem mk_bs (l : List UInt8) : ByteArray.mk l.toArray = bs l := rfl
attribute [push_cast] bs_size bs_data mk_toList empty_data mk_bs bs_append bs_extract bs_toList beq_bytes bytesOf_bs sbyte_bs
/-- the pieces between separators -/
def splitL (c : UInt8) : List UInt8 → List (List UInt8)
  | [] => [[]]
  | x :: r => if x = c then [] :: splitL c r else match splitL c r with
    | [] => [[x]]
    | h :: t => (x :: h) :: t
theorem splitL_ne (c : UInt8) (l : List UInt8) : splitL c l ≠ [] := by
  induction l with
  | nil => simp [splitL]
  | cons x r ih =>
    unfold splitL
    split
    · simp
    · split <;> simp
theorem splitL_len (c : UInt8) (l : List UInt8) : (splitL c l).length = Lib.countByte l c + 1 := by
  induction l with
  | nil => simp [splitL, Lib.countByte]
  | cons x r ih =>
    unfold splitL
    by_cases h : x = c
    · subst h
      simp only [if_true, List.length_cons, ih, Lib.countByte, List.count_cons_self]
    · simp only [h, if_false]
      have hc : Lib.countByte (x :: r) c = Lib.countByte r c := by simp [Lib.countByte, List.count_cons, h]
      cases e : splitL c r with
      | nil => exact absurd e (splitL_ne c r)
      | cons a t => rw [e] at ih; simp only [List.length_cons] at ih ⊢; rw [hc]; exact ih
theorem splitL_none {c : UInt8} {l : List UInt8} (h : c ∉ l) : splitL c l = [l] := by
  induction l with
  | nil => rfl
  | cons x r ih =>
    simp only [List.mem_cons, not_or] at h
    rw [splitL, if_neg (Ne.symm h.1), ih h.2]
theorem splitL_app {c : UInt8} {a l : List UInt8} (h : c ∉ a) : splitL c (a ++ c :: l) = a :: splitL c l := by
  induction a with
  | nil => simp [splitL]
  | cons x r ih =>
    simp only [List.mem_cons, not_or] at h
    rw [List.cons_append, splitL, if_neg (Ne.symm h.1), ih h.2]
/-- where a byte stands first -/
theorem indexByte_spec (c : UInt8) : ∀ (l : List UInt8), (Lib.indexByte l c = -1 ∧ c ∉ l) ∨ ∃ m : Nat, Lib.indexByte l c = m ∧ m < l.length ∧ c ∉ l.take m ∧ l = l.take m ++ c :: l.drop (m + 1)
  | [] => .inl ⟨rfl, by simp⟩
  | b :: l => by
    unfold Lib.indexByte
    by_cases h : b = c
    · subst h
      exact .inr ⟨0, by simp, by simp, by simp, by simp⟩
    · have hb : (b == c) = false := by simpa using h
      rcases indexByte_spec c l with ⟨h1, h2⟩ | ⟨m, h1, h2, h3, h4⟩
      · exact .inl ⟨by simp [hb, h1], by simp [Ne.symm h, h2]⟩
      · refine .inr ⟨m + 1, ?_, by simpa using h2, by simp [Ne.symm h, h3], ?_⟩
        · have : ¬ ((m : Int) = -1) := by omega
          simp [hb, h1, this]
        · simp only [List.take_succ_cons, List.drop_succ_cons, List.cons_append]
          rw [← h4]
/-- the first i pieces, and the rest -/
def cutsL (c : UInt8) (l : List UInt8) : Nat → List (List UInt8) × List UInt8
  | 0 => ([], l)
  | i + 1 => ((cutsL c l i).1 ++ [(cutsL c l i).2.take (Lib.indexByte (cutsL c l i).2 c).toNat], (cutsL c l i).2.drop ((Lib.indexByte (cutsL c l i).2 c).toNat + 1))
theorem cutsL_spec (c : UInt8) (l : List UInt8) : ∀ i, i ≤ Lib.countByte l c → (cutsL c l i).1.length = i ∧ splitL c l = (cutsL c l i).1 ++ splitL c (cutsL c l i).2 ∧ Lib.countByte (cutsL c l i).2 c + i = Lib.countByte l c ∧ (cutsL c l i).2.length ≤ l.length
  | 0, _ => ⟨rfl, rfl, rfl, Nat.le_refl _⟩
  | i + 1, h => by
    obtain ⟨h1, h2, h3, h4⟩ := cutsL_spec c l i (by omega)
    rcases indexByte_spec c (cutsL c l i).2 with ⟨g1, g2⟩ | ⟨m, g1, g2, g3, g4⟩
    · have : Lib.countByte (cutsL c l i).2 c = 0 := List.count_eq_zero.2 g2
      omega
    · simp only [cutsL, g1, Int.toNat_natCast]
      refine ⟨by simp [h1], ?_, ?_, by simp; omega⟩
      · rw [h2]
        conv => lhs; rw [g4]
        rw [splitL_app g3]; simp
      · have : Lib.countByte (cutsL c l i).2 c = Lib.countByte ((cutsL c l i).2.drop (m + 1)) c + 1 := by
          conv => lhs; rw [g4]
          simp only [Lib.countByte, List.count_append, List.count_cons_self, List.count_eq_zero.2 g3]; omega
        omega
theorem cutsL_index {c : UInt8} {l : List UInt8} {i : Nat} (h : i < Lib.countByte l c) : ∃ m : Nat, Lib.indexByte (cutsL c l i).2 c = m ∧ m < (cutsL c l i).2.length := by
  obtain ⟨h1, h2, h3, h4⟩ := cutsL_spec c l i (by omega)
  rcases indexByte_spec c (cutsL c l i).2 with ⟨g1, g2⟩ | ⟨m, g1, g2, g3, g4⟩
  · have : Lib.countByte (cutsL c l i).2 c = 0 := List.count_eq_zero.2 g2
    omega
  · exact ⟨m, g1, g2⟩
theorem cutsL_end (c : UInt8) (l : List UInt8) : splitL c l = (cutsL c l (Lib.countByte l c)).1 ++ [(cutsL c l (Lib.countByte l c)).2] := by
  obtain ⟨h1, h2, h3, h4⟩ := cutsL_spec c l _ (Nat.le_refl _)
  rw [h2, splitL_none]
  have h5 : Lib.countByte (cutsL c l (Lib.countByte l c)).2 c = 0 := by omega
  exact List.count_eq_zero.1 h5
def cutsA (c : UInt8) (l : List UInt8) (n i : Nat) : List ByteArray := (cutsL c l i).1.map bs ++ List.replicate (n + 1 - i) (bs [])
theorem set_append_replicate {α : Type} (a : List α) (x y : α) (k : Nat) (h : 0 < k) : (a ++ List.replicate k x).set a.length y = (a ++ [y]) ++ List.replicate (k - 1) x := by
  obtain ⟨j, rfl⟩ : ∃ j, k = j + 1 := ⟨k - 1, by omega⟩
  simp [List.replicate_succ]
theorem cutsA_len {c : UInt8} {l : List UInt8} {n i : Nat} (hn : Lib.countByte l c = n) (h : i ≤ n) : (cutsA c l n i).length = n + 1 := by
  have := (cutsL_spec c l i (by omega)).1
  simp [cutsA, this]; omega
theorem cutsA_step {c : UInt8} {l : List UInt8} {n i m : Nat} (hn : Lib.countByte l c = n) (h : i < n) (hm : Lib.indexByte (cutsL c l i).2 c = m) : (cutsA c l n i).set i (bs ((cutsL c l i).2.take m)) = cutsA c l n (i + 1) := by
  have h1 := (cutsL_spec c l i (by omega)).1
  have e : i = ((cutsL c l i).1.map bs).length := by simp [h1]
  unfold cutsA
  conv => lhs; rw [show ∀ L : List ByteArray, ∀ y, L.set i y = L.set ((cutsL c l i).1.map bs).length y from fun L y => by rw [← e]]
  rw [set_append_replicate _ _ _ _ (by omega)]
  simp only [cutsL, hm, Int.toNat_natCast, List.map_append, List.map_cons, List.map_nil]
  rw [show n + 1 - i - 1 = n + 1 - (i + 1) by omega]
theorem cutsA_end {c : UInt8} {l : List UInt8} {n : Nat} (hn : Lib.countByte l c = n) : (cutsA c l n n).set n (bs (cutsL c l n).2) = (splitL c l).map bs := by
  have h1 := (cutsL_spec c l n (by omega)).1
  have e : n = ((cutsL c l n).1.map bs).length := by simp [h1]
  unfold cutsA
  conv => lhs; rw [show ∀ L : List ByteArray, ∀ y, L.set n y = L.set ((cutsL c l n).1.map bs).length y from fun L y => by rw [← e]]
  rw [set_append_replicate _ _ _ _ (by omega)]
  subst hn
  rw [cutsL_end c l]
  simp
end Go.AM
end

/-! text PlNum -/
section
namespace Go.AM
open Go
def digits : List UInt8 := [48, 49, 50, 51, 52, 53, 54, 55, 56, 57]
theorem digit_iff {x : UInt8} : x ∈ digits ↔ ∃ a : Nat, a < 10 ∧ x = UInt8.ofNat (48 + a) := by
  constructor
  · intro h
    simp only [digits, List.mem_cons, List.not_mem_nil, or_false] at h
    rcases h with rfl | rfl | rfl | rfl | rfl | rfl | rfl | rfl | rfl | rfl
    · exact ⟨0, by omega, rfl⟩
    · exact ⟨1, by omega, rfl⟩
    · exact ⟨2, by omega, rfl⟩
    · exact ⟨3, by omega, rfl⟩
    · exact ⟨4, by omega, rfl⟩
    · exact ⟨5, by omega, rfl⟩
    · exact ⟨6, by omega, rfl⟩
    · exact ⟨7, by omega, rfl⟩
    · exact ⟨8, by omega, rfl⟩
    · exact ⟨9, by omega, rfl⟩
  · rintro ⟨a, ha, rfl⟩
    have : ∀ a : Fin 10, UInt8.ofNat (48 + a) ∈ digits := by decide
    exact this ⟨a, ha⟩
theorem digits_lt : ∀ b ∈ digits, b.toNat < 128 := by decide
theorem trimS_nil {l cs : List UInt8} : Lib.trimS l cs = [] ↔ ∀ x ∈ l, x ∈ cs := by
  have key : ∀ r : List UInt8, r.dropWhile (cs.contains ·) = [] ↔ ∀ x ∈ r, x ∈ cs := fun r => by
    induction r with
    | nil => simp
    | cons y r ih =>
      rw [List.dropWhile_cons]
      by_cases h : cs.contains y = true
      · rw [if_pos h, ih]
        simp only [List.mem_cons, forall_eq_or_imp]
        exact ⟨fun g => ⟨by simpa using h, g⟩, fun g => g.2⟩
      · rw [if_neg h]
        simp only [List.mem_cons, forall_eq_or_imp]
        exact ⟨fun g => by simp at g, fun g => absurd (by simpa using g.1) h⟩
  have idem : ∀ r : List UInt8, (∀ x ∈ r.dropWhile (cs.contains ·), x ∈ cs) → r.dropWhile (cs.contains ·) = [] := fun r => by
    induction r with
    | nil => simp
    | cons y r ih =>
      rw [List.dropWhile_cons]
      by_cases h : cs.contains y = true
      · rw [if_pos h]; exact ih
      · rw [if_neg h]
        intro g
        exact absurd (by simpa using g y (by simp)) h
  unfold Lib.trimS Lib.trimLeftS Lib.trimRightS
  rw [key]
  simp only [List.mem_reverse]
  constructor
  · intro g
    have := (key l.reverse).1 (idem l.reverse g)
    exact fun x hx => this x (by simpa using hx)
  · intro g x hx
    exact g x (by have := (List.dropWhile_sublist (cs.contains ·)).subset hx; simpa using this)
theorem atoi_one : ∀ a : Fin 10, Lib.atoiAll [UInt8.ofNat (48 + a)] = .ok ((a : Nat) : Int) := by decide +kernel
theorem atoi_two : ∀ a b : Fin 10, Lib.atoiAll [UInt8.ofNat (48 + a), UInt8.ofNat (48 + b)] = .ok ((10 * a + b : Nat) : Int) := by decide +kernel
def valL (l : List UInt8) : Int := l.foldl (fun n x => 10 * n + ((x.toNat : Int) - 48)) 0
def numOk (l : List UInt8) : Prop := l ≠ [] ∧ l.length ≤ 2 ∧ ¬ (1 < l.length ∧ l.getD 0 0 = 48) ∧ (∀ x ∈ l, x ∈ digits)
instance (l : List UInt8) : Decidable (numOk l) := by unfold numOk; exact inferInstance
theorem atoi_digits {l : List UInt8} (h0 : l ≠ []) (h2 : l.length ≤ 2) (hd : ∀ x ∈ l, x ∈ digits) : Lib.atoiAll l = .ok (valL l) := by
  match l, h0, h2 with
  | [x], _, _ =>
    obtain ⟨a, ha, rfl⟩ := digit_iff.1 (hd x (by simp))
    have e := atoi_one ⟨a, ha⟩
    simp only at e
    rw [e]
    have : (UInt8.ofNat (48 + a)).toNat = 48 + a := by simp; omega
    simp only [valL, List.foldl_cons, List.foldl_nil, this]
    congr 1; omega
  | [x, y], _, _ =>
    obtain ⟨a, ha, rfl⟩ := digit_iff.1 (hd x (by simp))
    obtain ⟨b, hb, rfl⟩ := digit_iff.1 (hd y (by simp))
    have e := atoi_two ⟨a, ha⟩ ⟨b, hb⟩
    simp only at e
    rw [e]
    have h1 : (UInt8.ofNat (48 + a)).toNat = 48 + a := by simp; omega
    have h2 : (UInt8.ofNat (48 + b)).toNat = 48 + b := by simp; omega
    simp only [valL, List.foldl_cons, List.foldl_nil, h1, h2]
    congr 1; omega
/-- a number of one or two digits without a superfluous zero -/
def numL (l : List UInt8) : Option Int := if numOk l then some (valL l) else none
theorem numL_some {l : List UInt8} (h : numOk l) : numL l = some (valL l) := if_pos h
theorem numL_none {l : List UInt8} (h : ¬ numOk l) : numL l = none := if_neg h
end Go.AM
end

/-! text PlParse -/
section
namespace Go.AM
open Go
theorem bs_getD (L : List (List UInt8)) (i : Nat) : (L.map bs).getD i ByteArray.empty = bs (L.getD i []) := by
  by_cases h : i < L.length
  · simp [List.getD, h]
  · simp [List.getD, Nat.le_of_not_lt h]; rfl
attribute [push_cast] bs_getD List.length_map
/-- a row of numbers -/
def rowV (row : List UInt8) : List Int := (splitL 46 row).map fun w => (numL w).getD 0
def rowOk (row : List UInt8) : Prop := ∀ w ∈ splitL 46 row, (numL w).isSome
def matV (s : List UInt8) : List (List Int) := (splitL 32 s).map rowV
open Classical in
noncomputable def parseB (s : List UInt8) : Bool := decide (s.length ≤ 1080 ∧ (∀ row ∈ splitL 32 s, rowOk row)) && vldB (matV s)
theorem piece_len {c : UInt8} {l x : List UInt8} (h : x ∈ splitL c l) : x.length ≤ l.length := by
  induction l generalizing x with
  | nil => simp [splitL] at h; subst h; simp
  | cons y r ih =>
    unfold splitL at h
    split at h
    · rcases List.mem_cons.1 h with rfl | h
      · simp
      · have := ih h; simp; omega
    · cases e : splitL c r with
      | nil => exact absurd e (splitL_ne c r)
      | cons a t =>
        rw [e] at h
        rcases List.mem_cons.1 h with rfl | h
        · have := ih (x := a) (by rw [e]; simp); simp; omega
        · have := ih (x := x) (by rw [e]; simp [h]); simp; omega
theorem getD_memL {L : List (List UInt8)} {i : Nat} (h : i < L.length) : L.getD i [] ∈ L := by
  rw [show L.getD i [] = L[i] by simp [h]]; exact List.getElem_mem h
theorem parseB_len {s : List UInt8} (h : 1080 < (s.length : Int)) : parseB s = false := by
  have : ¬ (s.length ≤ 1080) := by omega
  simp [parseB, this]
theorem parseB_row {s : List UInt8} {j : Nat} (hj : j < (splitL 32 s).length) (h : ¬ rowOk ((splitL 32 s).getD j [])) : parseB s = false := by
  have : ¬ (∀ row ∈ splitL 32 s, rowOk row) := fun g => h (g _ (getD_memL hj))
  simp [parseB, this]
open Classical in
theorem parseB_of {s : List UInt8} (h1 : s.length ≤ 1080) (h : ∀ j, j < (splitL 32 s).length → rowOk ((splitL 32 s).getD j [])) : parseB s = vldB (matV s) := by
  have : ∀ row ∈ splitL 32 s, rowOk row := fun row hr => by
    obtain ⟨j, hj, rfl⟩ := List.getElem_of_mem hr
    have := h j hj
    rwa [show (splitL 32 s).getD j [] = (splitL 32 s)[j] by simp [hj]] at this
  have h2 : s.length ≤ 1080 ∧ ∀ row ∈ splitL 32 s, rowOk row := ⟨h1, this⟩
  unfold parseB
  simp only [decide_eq_true h2, Bool.true_and]
theorem rowOk_of {row : List UInt8} (h : ∀ j, j < (splitL 46 row).length → (numL ((splitL 46 row).getD j [])).isSome) : rowOk row := fun w hw => by
  obtain ⟨j, hj, rfl⟩ := List.getElem_of_mem hw
  have := h j hj
  rwa [show (splitL 46 row).getD j [] = (splitL 46 row)[j] by simp [hj]] at this
end Go.AM
end

/-! text PlNest -/
section
namespace Go.AM
open Go

/-- rows, told by a function -/
def rowsOf (n : Nat) (F : Nat → List Int) : List (List Int) := (List.range n).map F
theorem rowsOf_len (n : Nat) (F : Nat → List Int) : (rowsOf n F).length = n := by simp [rowsOf]
theorem rowsOf_getD {n : Nat} {F : Nat → List Int} {j : Nat} (h : j < n) : (rowsOf n F).getD j [] = F j := by simp [rowsOf, List.getD, h]
theorem rowsOf_ext {n : Nat} {F G : Nat → List Int} (h : ∀ j, j < n → F j = G j) : rowsOf n F = rowsOf n G := List.map_congr_left fun j hj => h j (List.mem_range.1 hj)
theorem rowsOf_set {n : Nat} {F : Nat → List Int} {j : Nat} {v : List Int} : (rowsOf n F).set j v = rowsOf n (fun c => if c = j then v else F c) := by
  apply List.ext_getElem
  · simp [rowsOf]
  · intro i h1 h2
    simp only [rowsOf, List.getElem_set, List.getElem_map, List.getElem_range]
    by_cases h : j = i
    · simp [h]
    · simp [h, Ne.symm h]
theorem rowsOf_nil (n : Nat) : List.replicate n [] = rowsOf n (fun _ => []) := by
  apply List.ext_getElem <;> simp [rowsOf]

def namesB (n : Nat) (l : List Int) : Bool := decide (l.length = n ∧ (∀ x ∈ l, 0 ≤ x ∧ x < n) ∧ l.Nodup)
def NamesP (n : Nat) (l : List Int) : Prop := l.length = n ∧ (∀ x ∈ l, 0 ≤ x ∧ x < n) ∧ l.Nodup
theorem namesB_iff {n : Nat} {l : List Int} : namesB n l = true ↔ NamesP n l := by simp [namesB, NamesP]
theorem namesB_false {n : Nat} {l : List Int} (h : ¬ NamesP n l) : false = namesB n l := by
  cases e : namesB n l with
  | false => rfl
  | true => exact absurd (namesB_iff.1 e) h
theorem namesB_true {n : Nat} {l : List Int} (h : NamesP n l) : true = namesB n l := (namesB_iff.2 h).symm
def renF (a : List (List Int)) (nm : List Int) (i j : Nat) : List Int := ((List.range i).filter fun s => nm.getD s 0 == j).flatMap fun s => (a.getD s []).map fun t => nm.getD t.toNat 0
def RenR (a : List (List Int)) (nm : List Int) (A : List (List Int)) (e : Int) : Prop :=
  (vldB a = false ∧ A = [] ∧ e = 1) ∨ (vldB a = true ∧ namesB a.length nm = false ∧ A = [] ∧ e = 2) ∨ (vldB a = true ∧ namesB a.length nm = true ∧ A = rowsOf a.length (renF a nm a.length) ∧ e = 0)
end Go.AM
namespace Go.AM
open Go
theorem NamesP.inj {n : Nat} {l : List Int} (h : NamesP n l) {i j : Nat} (hi : i < n) (hj : j < n) (e : l.getD i 0 = l.getD j 0) : i = j := by
  have hl := h.1
  have e1 : l.getD i 0 = l[i] := by simp [List.getD, show i < l.length by omega]
  have e2 : l.getD j 0 = l[j] := by simp [List.getD, show j < l.length by omega]
  rw [e1, e2] at e
  exact (List.getElem_inj h.2.2).1 e
theorem nodup_take_succ {l : List Int} {i : Nat} (h : i < l.length) : (l.take (i + 1)).Nodup ↔ (l.take i).Nodup ∧ l.getD i 0 ∉ l.take i := by
  rw [List.take_succ_eq_append_getElem h, List.nodup_append]
  have e1 : l.getD i 0 = l[i] := by simp [List.getD, h]
  rw [e1]
  constructor
  · rintro ⟨h1, _, h3⟩
    exact ⟨h1, fun hm => h3 _ hm _ (by simp) rfl⟩
  · rintro ⟨h1, h2⟩
    exact ⟨h1, by simp, fun a ha b hb e => by simp at hb; subst hb; exact h2 (e ▸ ha)⟩
/-- row j as it has grown in part -/
def grown (F : Nat → List Int) (j : Nat) (l : List Int) : Nat → List Int := fun c => if c = j then F c ++ l else F c
theorem grown_nil (F : Nat → List Int) (j : Nat) : grown F j [] = F := by funext c; simp [grown]
theorem renF_zero (a : List (List Int)) (nm : List Int) : renF a nm 0 = fun _ => [] := rfl
theorem renF_succ (a : List (List Int)) (nm : List Int) (i : Nat) (h : 0 ≤ nm.getD i 0) : renF a nm (i + 1) = grown (renF a nm i) (nm.getD i 0).toNat ((a.getD i []).map fun t => nm.getD t.toNat 0) := by
  funext j
  unfold renF grown
  rw [List.range_succ, List.filter_append, List.flatMap_append]
  by_cases e : j = (nm.getD i 0).toNat
  · rw [if_pos e]
    have : (nm.getD i 0 == (j : Int)) = true := by simp only [beq_iff_eq]; omega
    rw [List.filter_cons_of_pos (by exact this)]
    simp only [List.filter_nil, List.flatMap_cons, List.flatMap_nil, List.append_nil]
  · rw [if_neg e]
    have : (nm.getD i 0 == (j : Int)) = false := by simp only [beq_eq_false_iff_ne]; omega
    rw [List.filter_cons_of_neg (by rw [this]; simp)]
    simp only [List.filter_nil, List.flatMap_nil, List.append_nil]
theorem grown_set (n : Nat) (F : Nat → List Int) (j : Nat) (l l' : List Int) : (rowsOf n (grown F j l)).set j (F j ++ l ++ l') = rowsOf n (grown F j (l ++ l')) := by
  rw [rowsOf_set]
  refine rowsOf_ext fun c _ => ?_
  unfold grown
  by_cases h : c = j
  · subst h; simp
  · simp [h]
theorem grown_set' {n : Nat} {F : Nat → List Int} {j : Nat} {l l' : List Int} (h : F j = []) : (rowsOf n (grown F j l)).set j ([] ++ l ++ l') = rowsOf n (grown F j (l ++ l')) := by
  rw [← h]; exact grown_set n F j l l'
theorem grown_getD {n : Nat} {F : Nat → List Int} {j : Nat} {l : List Int} (h : j < n) : (rowsOf n (grown F j l)).getD j [] = F j ++ l := by
  rw [rowsOf_getD h]; simp [grown]
end Go.AM
namespace Go.AM
open Go
theorem renF_fresh {n : Nat} {a : List (List Int)} {nm : List Int} (h : NamesP n nm) {i : Nat} (hi : i < n) : renF a nm i (nm.getD i 0).toNat = [] := by
  have h0 : 0 ≤ nm.getD i 0 := (h.2.1 _ (getD_mem (show i < nm.length by rw [h.1]; exact hi))).1
  unfold renF
  rw [List.filter_eq_nil_iff.2]
  · rfl
  · intro s hs
    have hs := List.mem_range.1 hs
    simp only [beq_iff_eq]
    intro e
    have := h.inj (i := s) (j := i) (by omega) hi (by omega)
    omega
theorem map_take_succ {f : Int → Int} {l : List Int} {k : Nat} (h : k < l.length) : (l.take (k + 1)).map f = (l.take k).map f ++ [f (l.getD k 0)] := by
  rw [List.take_succ_eq_append_getElem h, List.map_append]
  simp [List.getD, h]
end Go.AM
namespace Go.AM
open Go
/-! powers -/
def powR (a words : List (List Int)) (n : Nat) (m : Nat → Nat) : List (List Int) := rowsOf n fun c => (words.take (m c)).map (leadG a (c : Int))
theorem powR_len (a words : List (List Int)) (n : Nat) (m : Nat → Nat) : (powR a words n m).length = n := rowsOf_len _ _
theorem powR_zero (a words : List (List Int)) (n : Nat) : List.replicate n [] = powR a words n (fun _ => 0) := by rw [rowsOf_nil]; rfl
theorem powR_getD {a words : List (List Int)} {n : Nat} {m : Nat → Nat} {j : Nat} (h : j < n) : (powR a words n m).getD j [] = (words.take (m j)).map (leadG a (j : Int)) := rowsOf_getD h
theorem powR_congr {a words : List (List Int)} {n : Nat} {m m' : Nat → Nat} (h : ∀ c, c < n → m c = m' c) : powR a words n m = powR a words n m' := rowsOf_ext fun c hc => by rw [h c hc]
theorem powR_set {a words : List (List Int)} {n : Nat} {m m' : Nat → Nat} {j : Nat} (hj : j < n) (h : m j < words.length) (hm : ∀ c, c < n → m' c = if c = j then m j + 1 else m c) :
    (powR a words n m).set j ((powR a words n m).getD j [] ++ [leadG a j (words.getD (m j) [])]) = powR a words n m' := by
  rw [powR_getD hj]
  unfold powR
  rw [rowsOf_set]
  refine rowsOf_ext fun c hc => ?_
  rw [hm c hc]
  by_cases e : c = j
  · subst e
    simp only [if_true]
    rw [List.take_succ_eq_append_getElem h, List.map_append]
    simp [List.getD, h]
  · simp [e]
def wordsB (k : Nat) (words : List (List Int)) : Bool := decide (1 ≤ words.length ∧ words.length ≤ 6 ∧ ∀ w ∈ words, wordB k w = true)
theorem wordsB_iff {k : Nat} {words : List (List Int)} : wordsB k words = true ↔ 1 ≤ words.length ∧ words.length ≤ 6 ∧ ∀ w ∈ words, wordB k w = true := by simp [wordsB]
theorem wordsB_false {k : Nat} {words : List (List Int)} (h : ¬ (1 ≤ words.length ∧ words.length ≤ 6 ∧ ∀ w ∈ words, wordB k w = true)) : false = wordsB k words := by
  cases e : wordsB k words with
  | false => rfl
  | true => exact absurd (wordsB_iff.1 e) h
def PowR (a words A : List (List Int)) (e : Int) : Prop :=
  (vldB a = false ∧ A = [] ∧ e = 1) ∨ (vldB a = true ∧ wordsB (a.getD 0 []).length words = false ∧ A = [] ∧ e = 2) ∨
  (vldB a = true ∧ wordsB (a.getD 0 []).length words = true ∧ A = powR a words a.length (fun _ => words.length) ∧ e = 0)
/-- each number once, said the other way -/
theorem NamesP_iff {n : Nat} {l : List Int} : NamesP n l ↔ l.length = n ∧ ∀ i : Nat, i < n → (i : Int) ∈ l := by
  have core : ∀ (l1 l2 : List Int), l1.Nodup → (∀ x ∈ l1, x ∈ l2) → l2.length ≤ l1.length → l1.Perm l2 := by
    intro l1
    induction l1 with
    | nil => intro l2 _ _ h; rw [List.length_eq_zero_iff.1 (Nat.le_zero.1 h)]
    | cons x r ih =>
      intro l2 hn hs hl
      have hx : x ∈ l2 := hs x (by simp)
      have hp := List.perm_cons_erase hx
      refine (List.Perm.cons x (ih (l2.erase x) (List.nodup_cons.1 hn).2 (fun y hy => ?_) ?_)).trans hp.symm
      · have hne : y ≠ x := fun e => (List.nodup_cons.1 hn).1 (e ▸ hy)
        exact (List.mem_erase_of_ne hne).2 (hs y (by simp [hy]))
      · have := hp.length_eq
        simp at this hl
        omega
  have hr : ((List.range n).map (Nat.cast : Nat → Int)).Nodup := by
    unfold List.Nodup
    rw [List.pairwise_map]
    exact List.nodup_range.imp fun h e => h (by omega)
  constructor
  · rintro ⟨h1, h2, h3⟩
    refine ⟨h1, fun i hi => ?_⟩
    have := core l ((List.range n).map (Nat.cast : Nat → Int)) h3 (fun x hx => by
      have := h2 x hx
      exact List.mem_map.2 ⟨x.toNat, List.mem_range.2 (by omega), by omega⟩) (by simp; omega)
    exact this.mem_iff.2 (List.mem_map.2 ⟨i, List.mem_range.2 hi, rfl⟩)
  · rintro ⟨h1, h2⟩
    have := core ((List.range n).map (Nat.cast : Nat → Int)) l hr (fun x hx => by
      obtain ⟨i, hi, rfl⟩ := List.mem_map.1 hx
      exact h2 i (List.mem_range.1 hi)) (by simp; omega)
    refine ⟨h1, fun x hx => ?_, this.nodup_iff.1 hr⟩
    obtain ⟨i, hi, rfl⟩ := List.mem_map.1 (this.mem_iff.2 hx)
    have := List.mem_range.1 hi
    omega
end Go.AM
namespace Go.AM
open Go
theorem fresh_set {n : Nat} {F : Nat → List Int} {j : Nat} {v : List Int} (h : F j = []) : (rowsOf n F).set j v = rowsOf n (grown F j v) := by
  rw [rowsOf_set]
  refine rowsOf_ext fun c _ => ?_
  unfold grown
  by_cases e : c = j
  · subst e; simp [h]
  · simp [e]
end Go.AM
namespace Go.AM
open Go
theorem RenR.f1 {a : List (List Int)} {nm : List Int} {A : List (List Int)} {e : Int} (h : RenR a nm A e) (hv : vldB a = false) : A = [] ∧ e = 1 := by
  rcases h with ⟨_, h⟩ | ⟨h1, _⟩ | ⟨h1, _⟩
  · exact h
  · rw [hv] at h1; cases h1
  · rw [hv] at h1; cases h1
theorem RenR.f2 {a : List (List Int)} {nm : List Int} {A : List (List Int)} {e : Int} (h : RenR a nm A e) (hv : vldB a = true) (hn : namesB a.length nm = false) : A = [] ∧ e = 2 := by
  rcases h with ⟨h1, _⟩ | ⟨_, _, h⟩ | ⟨_, h1, _⟩
  · rw [hv] at h1; cases h1
  · exact h
  · rw [hn] at h1; cases h1
theorem RenR.f3 {a : List (List Int)} {nm : List Int} {A : List (List Int)} {e : Int} (h : RenR a nm A e) (hv : vldB a = true) (hn : namesB a.length nm = true) : A = rowsOf a.length (renF a nm a.length) ∧ e = 0 := by
  rcases h with ⟨h1, _⟩ | ⟨_, h1, _⟩ | ⟨_, _, h⟩
  · rw [hv] at h1; cases h1
  · rw [hn] at h1; cases h1
  · exact h
theorem PowR.f1 {a words A : List (List Int)} {e : Int} (h : PowR a words A e) (hv : vldB a = false) : A = [] ∧ e = 1 := by
  rcases h with ⟨_, h⟩ | ⟨h1, _⟩ | ⟨h1, _⟩
  · exact h
  · rw [hv] at h1; cases h1
  · rw [hv] at h1; cases h1
theorem PowR.f2 {a words A : List (List Int)} {e : Int} (h : PowR a words A e) (hv : vldB a = true) (hn : wordsB (a.getD 0 []).length words = false) : A = [] ∧ e = 2 := by
  rcases h with ⟨h1, _⟩ | ⟨_, _, h⟩ | ⟨_, h1, _⟩
  · rw [hv] at h1; cases h1
  · exact h
  · rw [hn] at h1; cases h1
theorem PowR.f3 {a words A : List (List Int)} {e : Int} (h : PowR a words A e) (hv : vldB a = true) (hn : wordsB (a.getD 0 []).length words = true) : A = powR a words a.length (fun _ => words.length) ∧ e = 0 := by
  rcases h with ⟨h1, _⟩ | ⟨_, h1, _⟩ | ⟨_, _, h⟩
  · rw [hv] at h1; cases h1
  · rw [hn] at h1; cases h1
  · exact h
end Go.AM
end

/-! text PlText -/
section
namespace Go.AM
open Go
def joinT (c : UInt8) : List (List UInt8) → List UInt8
  | [] => []
  | [x] => x
  | x :: y :: r => x ++ c :: joinT c (y :: r)
theorem joinT_lib (c : UInt8) : ∀ xs : List (List UInt8), Lib.join xs [c] = joinT c xs
  | [] => rfl
  | [x] => by simp [Lib.join, joinT, List.intercalate]
  | x :: y :: r => by
    have := joinT_lib c (y :: r)
    simp only [Lib.join, List.intercalate] at this ⊢
    simp only [List.intersperse, List.flatten_cons, joinT, ← this, List.singleton_append]
theorem split_join {c : UInt8} : ∀ {xs : List (List UInt8)}, xs ≠ [] → (∀ x ∈ xs, c ∉ x) → splitL c (joinT c xs) = xs
  | [x], _, h => splitL_none (h x (by simp))
  | x :: y :: r, _, h => by
    show splitL c (x ++ c :: joinT c (y :: r)) = _
    rw [splitL_app (h x (by simp)), split_join (by simp) fun z hz => h z (by simp only [List.mem_cons] at hz ⊢; exact .inr hz)]
theorem joinT_cons {c : UInt8} {x : List UInt8} {r : List (List UInt8)} (h : r ≠ []) : joinT c (x :: r) = x ++ c :: joinT c r := by
  cases r with
  | nil => exact absurd rfl h
  | cons y r => rfl
theorem join_split {c : UInt8} : ∀ l : List UInt8, joinT c (splitL c l) = l
  | [] => rfl
  | x :: r => by
    have ih := join_split (c := c) r
    unfold splitL
    by_cases h : x = c
    · rw [if_pos h, joinT_cons (splitL_ne c r), ih, h]; rfl
    · rw [if_neg h]
      cases e : splitL c r with
      | nil => exact absurd e (splitL_ne c r)
      | cons a t =>
        rw [e] at ih
        simp only
        cases t with
        | nil => simp only [joinT] at ih ⊢; rw [ih]
        | cons b t => simp only [joinT, List.cons_append] at ih ⊢; rw [ih]
theorem joinT_snoc {c : UInt8} : ∀ {xs : List (List UInt8)} {y : List UInt8}, xs ≠ [] → joinT c (xs ++ [y]) = joinT c xs ++ c :: y
  | [x], y, _ => rfl
  | x :: z :: r, y, _ => by
    have := joinT_snoc (c := c) (xs := z :: r) (y := y) (by simp)
    simp only [List.cons_append, joinT] at this ⊢
    rw [this]; simp
theorem joinT_len {c : UInt8} {L : Nat} : ∀ {xs : List (List UInt8)}, xs ≠ [] → (∀ x ∈ xs, x.length ≤ L) → (joinT c xs).length + 1 ≤ xs.length * (L + 1)
  | [x], _, h => by have := h x (by simp); simp [joinT]; omega
  | x :: y :: r, _, h => by
    have h1 := h x (by simp)
    have h2 := joinT_len (c := c) (L := L) (xs := y :: r) (by simp) fun z hz => h z (by simp only [List.mem_cons] at hz ⊢; exact .inr hz)
    simp only [joinT, List.length_append, List.length_cons] at h2 ⊢
    rw [Nat.add_mul (r.length + 1) 1, Nat.one_mul]
    omega
/-- the text of a number below 100 -/
def numT (t : Int) : List UInt8 := Lib.decDigits t.toNat
theorem numT_all : ∀ i : Fin 100, numOk (Lib.decDigits i) ∧ valL (Lib.decDigits i) = ((i : Nat) : Int) := by decide +kernel
theorem numT_ok {t : Int} (h0 : 0 ≤ t) (h1 : t < 100) : numOk (numT t) ∧ valL (numT t) = t := by
  have := numT_all ⟨t.toNat, by omega⟩
  exact ⟨this.1, by have h := this.2; simp only at h; unfold numT; rw [h]; omega⟩
theorem numT_one : ∀ a : Fin 10, numT (valL [UInt8.ofNat (48 + a)]) = [UInt8.ofNat (48 + a)] ∧ 0 ≤ valL [UInt8.ofNat (48 + a)] := by decide +kernel
theorem numT_two : ∀ a b : Fin 10, a ≠ 0 → numT (valL [UInt8.ofNat (48 + a), UInt8.ofNat (48 + b)]) = [UInt8.ofNat (48 + a), UInt8.ofNat (48 + b)] := by decide +kernel
theorem numT_val {l : List UInt8} (h : numOk l) : numT (valL l) = l := by
  obtain ⟨h0, h2, h3, hd⟩ := h
  match l, h0, h2, h3, hd with
  | [x], _, _, _, hd =>
    obtain ⟨a, ha, rfl⟩ := digit_iff.1 (hd x (by simp))
    exact (numT_one ⟨a, ha⟩).1
  | [x, y], _, _, h3, hd =>
    obtain ⟨a, ha, rfl⟩ := digit_iff.1 (hd x (by simp))
    obtain ⟨b, hb, rfl⟩ := digit_iff.1 (hd y (by simp))
    refine numT_two ⟨a, ha⟩ ⟨b, hb⟩ fun e => h3 ⟨by simp, ?_⟩
    have : a = 0 := congrArg Fin.val e
    subst this
    rfl
  | x :: y :: z :: r, _, h2, _, _ => simp at h2
def rowT (row : List Int) : List UInt8 := joinT 46 (row.map numT)
def textB (a : List (List Int)) : List UInt8 := joinT 32 (a.map rowT)
theorem no_sep {c : UInt8} (hc : c ∉ digits) {l : List UInt8} (h : ∀ x ∈ l, x ∈ digits) : c ∉ l := fun hm => hc (h c hm)
theorem mem_joinT {c x : UInt8} : ∀ {xs : List (List UInt8)}, x ∈ joinT c xs → x = c ∨ ∃ y ∈ xs, x ∈ y
  | [y], h => .inr ⟨y, by simp, h⟩
  | y :: z :: r, h => by
    simp only [joinT, List.mem_append, List.mem_cons] at h
    rcases h with h | h | h
    · exact .inr ⟨y, by simp, h⟩
    · exact .inl h
    · rcases mem_joinT (xs := z :: r) h with h | ⟨u, hu, h⟩
      · exact .inl h
      · exact .inr ⟨u, by simp only [List.mem_cons] at hu ⊢; exact .inr hu, h⟩
theorem rowT_split {row : List Int} (h0 : row ≠ []) (h : ∀ t ∈ row, 0 ≤ t ∧ t < 100) : splitL 46 (rowT row) = row.map numT := by
  refine split_join (by simpa using h0) fun x hx => ?_
  obtain ⟨t, ht, rfl⟩ := List.mem_map.1 hx
  exact no_sep (by decide) (numT_ok (h t ht).1 (h t ht).2).1.2.2.2
theorem rowT_sp {row : List Int} (h : ∀ t ∈ row, 0 ≤ t ∧ t < 100) : (32 : UInt8) ∉ rowT row := fun hm => by
  rcases mem_joinT hm with h1 | ⟨y, hy, h1⟩
  · revert h1; decide
  · obtain ⟨t, ht, rfl⟩ := List.mem_map.1 hy
    exact no_sep (by decide) (numT_ok (h t ht).1 (h t ht).2).1.2.2.2 h1
theorem textB_split {a : List (List Int)} (h0 : a ≠ []) (h : ∀ r ∈ a, ∀ t ∈ r, 0 ≤ t ∧ t < 100) : splitL 32 (textB a) = a.map rowT := by
  refine split_join (by simpa using h0) fun x hx => ?_
  obtain ⟨r, hr, rfl⟩ := List.mem_map.1 hx
  exact rowT_sp (h r hr)
theorem rowV_rowT {row : List Int} (h0 : row ≠ []) (h : ∀ t ∈ row, 0 ≤ t ∧ t < 100) : rowV (rowT row) = row := by
  unfold rowV
  rw [rowT_split h0 h, List.map_map]
  conv => rhs; rw [← List.map_id row]
  refine List.map_congr_left fun t ht => ?_
  have := numT_ok (h t ht).1 (h t ht).2
  simp [numL_some this.1, this.2]
theorem Vld.k_eq' {a : List (List Int)} {k : Nat} (h : Vld a k) : (a.getD 0 []).length = k := (h.row _ (getD_mem' (by have := h.n1; omega))).1
theorem text_back {a : List (List Int)} {k : Nat} (hV : Vld a k) : matV (textB a) = a ∧ parseB (textB a) = true := by
  have hn := hV.n1
  have hn2 := hV.n2
  have hk := hV.k1
  have hk2 := hV.k2
  have h0 : a ≠ [] := fun e => by rw [e] at hn; simp at hn
  have hr0 : ∀ r ∈ a, r ≠ [] := fun r hr e => by have := (hV.row r hr).1; rw [e] at this; simp at this; omega
  have hr : ∀ r ∈ a, ∀ t ∈ r, 0 ≤ t ∧ t < 100 := fun r hr t ht => by have := (hV.row r hr).2 t ht; omega
  have hm : matV (textB a) = a := by
    unfold matV
    rw [textB_split h0 hr, List.map_map]
    conv => rhs; rw [← List.map_id a]
    exact List.map_congr_left fun r hr' => rowV_rowT (hr0 r hr') (hr r hr')
  refine ⟨hm, ?_⟩
  have hlen : (textB a).length + 1 ≤ (a.map rowT).length * (17 + 1) := joinT_len (by simpa using h0) fun x hx => by
    obtain ⟨r, hr', rfl⟩ := List.mem_map.1 hx
    have h1 : (rowT r).length + 1 ≤ (r.map numT).length * (2 + 1) := joinT_len (by simpa using hr0 r hr') fun y hy => by
      obtain ⟨t, ht, rfl⟩ := List.mem_map.1 hy
      exact (numT_ok (hr r hr' t ht).1 (hr r hr' t ht).2).1.2.1
    have := (hV.row r hr').1
    simp only [List.length_map] at h1
    omega
  rw [List.length_map] at hlen
  rw [parseB_of (by omega) fun j hj => ?_, hm, vldB_iff, hV.k_eq']
  · exact hV
  · rw [textB_split h0 hr] at hj ⊢
    simp only [List.length_map] at hj
    have e : (a.map rowT).getD j [] = rowT (a.getD j []) := by simp [List.getD, hj]
    rw [e]
    intro w hw
    rw [rowT_split (hr0 _ (getD_mem' hj)) (hr _ (getD_mem' hj))] at hw
    obtain ⟨t, ht, rfl⟩ := List.mem_map.1 hw
    rw [numL_some (numT_ok (hr _ (getD_mem' hj) t ht).1 (hr _ (getD_mem' hj) t ht).2).1]
    rfl
end Go.AM
namespace Go.AM
open Go
open Classical in
theorem parse_text {s : List UInt8} (h : parseB s = true) : vldB (matV s) = true ∧ textB (matV s) = s := by
  unfold parseB at h
  rw [Bool.and_eq_true, decide_eq_true_eq] at h
  obtain ⟨⟨_, h1⟩, h2⟩ := h
  refine ⟨h2, ?_⟩
  unfold textB matV
  rw [List.map_map]
  have : (splitL 32 s).map (rowT ∘ rowV) = splitL 32 s := by
    conv => rhs; rw [← List.map_id (splitL 32 s)]
    refine List.map_congr_left fun row hr => ?_
    show rowT (rowV row) = row
    unfold rowT rowV
    rw [List.map_map]
    have : (splitL 46 row).map (numT ∘ fun w => (numL w).getD 0) = splitL 46 row := by
      conv => rhs; rw [← List.map_id (splitL 46 row)]
      refine List.map_congr_left fun w hw => ?_
      have := h1 row hr w hw
      show numT ((numL w).getD 0) = w
      by_cases hn : numOk w
      · rw [numL_some hn]; exact numT_val hn
      · rw [numL_none hn] at this; cases this
    rw [this]; exact join_split row
  rw [this]; exact join_split s
/-! the reference's way through a string -/
def appLast (R : List (List Int)) (n : Int) : List (List Int) := R.set (R.length - 1) (R.getD (R.length - 1) [] ++ [n])
structure Sc where
  R : List (List Int)
  n : Int
  m : Nat
def scStep (s : Sc) (c : UInt8) : Sc :=
  if 48 ≤ c.toNat ∧ c.toNat ≤ 57 ∧ s.m < 3 then ⟨s.R, 10 * s.n + ((c.toNat : Int) - 48), s.m + 1⟩
  else if c = 32 then ⟨appLast s.R s.n ++ [[]], 0, 0⟩ else ⟨appLast s.R s.n, 0, 0⟩
def scan (l : List UInt8) : Sc := l.foldl scStep ⟨[[]], 0, 0⟩
def scanEnd (l : List UInt8) : List (List Int) := appLast (scan l).R (scan l).n
theorem appLast_len (R : List (List Int)) (n : Int) : (appLast R n).length = R.length := by simp [appLast]
theorem appLast_snoc (R : List (List Int)) (r : List Int) (n : Int) : appLast (R ++ [r]) n = R ++ [r ++ [n]] := by
  unfold appLast
  have e : (R ++ [r]).length - 1 = R.length := by simp
  rw [e, show (R ++ [r]).getD R.length [] = r by simp [List.getD]]
  rw [List.set_append_right _ _ (Nat.le_refl _)]
  simp
theorem scan_one : ∀ a : Fin 10, 48 ≤ (UInt8.ofNat (48 + a)).toNat ∧ (UInt8.ofNat (48 + a)).toNat ≤ 57 := by decide +kernel
theorem digit_rng {x : UInt8} (h : x ∈ digits) : 48 ≤ x.toNat ∧ x.toNat ≤ 57 := by
  obtain ⟨a, ha, rfl⟩ := digit_iff.1 h
  exact scan_one ⟨a, ha⟩
theorem scan_num {l : List UInt8} (h : numOk l) (R : List (List Int)) : l.foldl scStep ⟨R, 0, 0⟩ = ⟨R, valL l, l.length⟩ := by
  obtain ⟨h0, h2, _, hd⟩ := h
  match l, h0, h2, hd with
  | [x], _, _, hd =>
    have h1 := digit_rng (hd x (by simp))
    simp [scStep, h1, valL]
  | [x, y], _, _, hd =>
    have h1 := digit_rng (hd x (by simp))
    have h2 := digit_rng (hd y (by simp))
    simp [scStep, h1, h2, valL]
  | x :: y :: z :: r, _, h2, _ => simp at h2
theorem scan_dot (R : List (List Int)) (n : Int) (m : Nat) : scStep ⟨R, n, m⟩ 46 = ⟨appLast R n, 0, 0⟩ := by simp [scStep]
theorem scan_sp (R : List (List Int)) (n : Int) (m : Nat) : scStep ⟨R, n, m⟩ 32 = ⟨appLast R n ++ [[]], 0, 0⟩ := by simp [scStep]
theorem scan_row : ∀ (row : List Int), row ≠ [] → (∀ t ∈ row, 0 ≤ t ∧ t < 100) → ∀ (R : List (List Int)) (r : List Int), ∃ n m, (rowT row).foldl scStep ⟨R ++ [r], 0, 0⟩ = ⟨R ++ [r ++ row.dropLast], n, m⟩ ∧ appLast (R ++ [r ++ row.dropLast]) n = R ++ [r ++ row]
  | [t], _, h, R, r => by
    have hn := numT_ok (h t (by simp)).1 (h t (by simp)).2
    refine ⟨t, (numT t).length, ?_, ?_⟩
    · show (numT t).foldl scStep _ = _
      rw [scan_num hn.1, hn.2]
      simp only [List.dropLast_singleton, List.append_nil]
    · rw [appLast_snoc]; simp
  | t :: u :: row, _, h, R, r => by
    have hn := numT_ok (h t (by simp)).1 (h t (by simp)).2
    obtain ⟨n, m, h1, h2⟩ := scan_row (u :: row) (by simp) (fun x hx => h x (by simp only [List.mem_cons] at hx ⊢; exact .inr hx)) R (r ++ [t])
    refine ⟨n, m, ?_, ?_⟩
    · show (numT t ++ 46 :: rowT (u :: row)).foldl scStep _ = _
      rw [List.foldl_append, scan_num hn.1, hn.2, List.foldl_cons, scan_dot, appLast_snoc, h1]
      simp [List.dropLast]
    · simp only [List.append_assoc, List.singleton_append] at h2 ⊢
      simpa [List.dropLast] using h2
theorem scan_all : ∀ (a : List (List Int)), a ≠ [] → (∀ r ∈ a, r ≠ []) → (∀ r ∈ a, ∀ t ∈ r, 0 ≤ t ∧ t < 100) → ∀ (R : List (List Int)), ∃ s, (textB a).foldl scStep ⟨R ++ [[]], 0, 0⟩ = s ∧ appLast s.R s.n = R ++ a
  | [row], _, h0, h, R => by
    obtain ⟨n, m, h1, h2⟩ := scan_row row (h0 row (by simp)) (h row (by simp)) R []
    exact ⟨_, h1, by simpa using h2⟩
  | row :: row2 :: a, _, h0, h, R => by
    obtain ⟨n, m, h1, h2⟩ := scan_row row (h0 row (by simp)) (h row (by simp)) R []
    obtain ⟨s, h3, h4⟩ := scan_all (row2 :: a) (by simp) (fun r hr => h0 r (by simp only [List.mem_cons] at hr ⊢; exact .inr hr)) (fun r hr => h r (by simp only [List.mem_cons] at hr ⊢; exact .inr hr)) (R ++ [row])
    refine ⟨s, ?_, ?_⟩
    · show (rowT row ++ 32 :: textB (row2 :: a)).foldl scStep _ = _
      rw [List.foldl_append, h1, List.foldl_cons, scan_sp, h2]
      simpa using h3
    · rw [h4]; simp
theorem scan_text {a : List (List Int)} {k : Nat} (hV : Vld a k) : scanEnd (textB a) = a := by
  have hn := hV.n1
  have hn2 := hV.n2
  have hk := hV.k1
  have h0 : a ≠ [] := fun e => by rw [e] at hn; simp at hn
  have hr0 : ∀ r ∈ a, r ≠ [] := fun r hr e => by have := (hV.row r hr).1; rw [e] at this; simp at this; omega
  obtain ⟨s, h1, h2⟩ := scan_all a h0 hr0 (fun r hr t ht => by have := (hV.row r hr).2 t ht; omega) []
  unfold scanEnd scan
  rw [show (⟨[[]], 0, 0⟩ : Sc) = ⟨[] ++ [[]], 0, 0⟩ from rfl, h1, h2]; rfl
/-- the reference's answer on a string -/
theorem ref_parse_iff {s : List UInt8} : parseB s = true ↔ vldB (scanEnd s) = true ∧ textB (scanEnd s) = s := by
  constructor
  · intro h
    obtain ⟨h1, h2⟩ := parse_text h
    have h3 := scan_text (vldB_iff.1 h1)
    rw [h2] at h3
    rw [h3]; exact ⟨h1, h2⟩
  · rintro ⟨h1, h2⟩
    have := (text_back (vldB_iff.1 h1)).2
    rwa [h2] at this
theorem ref_parse_val {s : List UInt8} (h : parseB s = true) : matV s = scanEnd s := by
  obtain ⟨h1, h2⟩ := ref_parse_iff.1 h
  have := (text_back (vldB_iff.1 h1)).1
  rwa [h2] at this
end Go.AM
end

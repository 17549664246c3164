/-
  Plain facts on the closure of pairs; no program in sight.
-/
import Derived.Test.YtkpoffjimfiabaaP4
import Derived.Test.YtkpoffjimfiabaaP2
set_option linter.unusedVariables false
set_option linter.unusedSimpArgs false
set_option linter.unusedSectionVars false
set_option linter.unnecessarySimpa false

section
namespace Go.AM
open Go
def thX (N O : List (List Int)) (s t : Nat) (q : List Bool × Bool) : Nat → List Bool × Bool
 | 0 => q
 | x + 1 => if (thX N O s t q x).1.getD (s * N.length + t) false = true then thX N O s t q x
  else if outG O s x ≠ outG O t x ∨ (thX N O s t q x).1.getD (ntf N s x * N.length + ntf N t x) false = true then ((thX N O s t q x).1.set (s * N.length + t) true, true) else thX N O s t q x
def thT (N O : List (List Int)) (k s : Nat) (q : List Bool × Bool) : Nat → List Bool × Bool
 | 0 => q
 | t + 1 => thX N O s t (thT N O k s q t) k
def thS (N O : List (List Int)) (k : Nat) (q : List Bool × Bool) : Nat → List Bool × Bool
 | 0 => q
 | s + 1 => thT N O k s (thS N O k q s) N.length
variable {N O : List (List Int)} {k : Nat}
theorem thX_len {s t : Nat} {q : List Bool × Bool} : ∀ x, (thX N O s t q x).1.length = q.1.length
 | 0 => rfl
 | x + 1 => by
  unfold thX
  split
  ·exact thX_len x
  ·split
   ·simp [thX_len x]
   ·exact thX_len x
theorem thT_len {s : Nat} {q : List Bool × Bool} : ∀ t, (thT N O k s q t).1.length = q.1.length
 | 0 => rfl
 | t + 1 => by unfold thT; rw [thX_len, thT_len t]
theorem thS_len {q : List Bool × Bool} : ∀ s, (thS N O k q s).1.length = q.1.length
 | 0 => rfl
 | s + 1 => by unfold thS; rw [thT_len, thS_len s]
def MarkT (N O : List (List Int)) (k : Nat) (A : List Bool) : Prop := ∀ p q, p < N.length → q < N.length → A.getD (p * N.length + q) false = true → p = q ∨ ∃ w : List Int, (∀ c ∈ w, 0 ≤ c ∧ c < k) ∧ decW N O true p q w
theorem thX_mark (hV : VM N O k) {s t : Nat} (hs : s < N.length) (ht : t < N.length) {q : List Bool × Bool} (h : MarkT N O k q.1) : ∀ x, x ≤ k → MarkT N O k (thX N O s t q x).1
 | 0, _ => h
 | x + 1, hx => by
  have ih := thX_mark hV hs ht h x (by omega)
  unfold thX
  split
  ·exact ih
  ·split
   ·rename_i hc
    intro p1 q1 hp1 hq1 hm
    rcases set_was hm with e | e
    ·obtain ⟨rfl, rfl⟩ := pair_ix ht hq1 e
     rcases hc with hc | hc
     ·exact .inr ⟨[(x : Int)], fun c hc => by simp at hc; omega, (dec_cons hV hp1 hq1 (by omega)).2 (.inl hc)⟩
     ·rcases ih _ _ (ntf_lt hV hp1 (by omega)) (ntf_lt hV hq1 (by omega)) hc with e2 | ⟨w, w1, w2⟩
      ·refine .inr ⟨[(x : Int)], fun c hc => by simp at hc; omega, (dec_cons hV hp1 hq1 (by omega)).2 (.inr (.inr ⟨rfl, by rw [e2]⟩))⟩
      ·refine .inr ⟨(x : Int) :: w, fun c hc => ?_, (dec_cons hV hp1 hq1 (by omega)).2 (.inr w2)⟩
       rcases List.mem_cons.1 hc with rfl | hc
       ·omega
       ·exact w1 c hc
    ·exact ih p1 q1 hp1 hq1 e
   ·exact ih
theorem thT_mark (hV : VM N O k) {s : Nat} (hs : s < N.length) {q : List Bool × Bool} (h : MarkT N O k q.1) : ∀ t, t ≤ N.length → MarkT N O k (thT N O k s q t).1
 | 0, _ => h
 | t + 1, ht => thX_mark hV hs (by omega) (thT_mark hV hs h t (by omega)) _ (Nat.le_refl _)
theorem thS_mark (hV : VM N O k) {q : List Bool × Bool} (h : MarkT N O k q.1) : ∀ s, s ≤ N.length → MarkT N O k (thS N O k q s).1
 | 0, _ => h
 | s + 1, hs => thT_mark hV (by omega) (thS_mark hV h s (by omega)) _ (Nat.le_refl _)
theorem thX_no {s t : Nat} {q : List Bool × Bool} : ∀ x, (thX N O s t q x).2 = false → thX N O s t q x = q ∧ (q.1.getD (s * N.length + t) false = true ∨ ∀ y, y < x → outG O s y = outG O t y ∧ q.1.getD (ntf N s y * N.length + ntf N t y) false = false)
 | 0, _ => ⟨rfl, .inr fun y h => by omega⟩
 | x + 1, h => by
  unfold thX at h ⊢
  split at h
  ·rename_i hm
   obtain ⟨i1, i2⟩ := thX_no x h
   rw [i1] at hm ⊢
   rw [if_pos hm]
   exact ⟨rfl, .inl hm⟩
  ·rename_i hm
   split at h
   ·cases h
   ·rename_i hc
    obtain ⟨i1, i2⟩ := thX_no x h
    rw [i1] at hm hc ⊢
    rw [if_neg hm, if_neg hc]
    refine ⟨rfl, .inr fun y hy => ?_⟩
    by_cases e : y = x
    ·subst e
     exact ⟨Classical.not_not.1 fun g => hc (.inl g), by simpa using fun g => hc (.inr g)⟩
    ·rcases i2 with i2 | i2
     ·exact absurd i2 hm
     ·exact i2 y (by omega)
theorem thT_no {s : Nat} {q : List Bool × Bool} : ∀ t, (thT N O k s q t).2 = false → thT N O k s q t = q ∧ ∀ t', t' < t → q.1.getD (s * N.length + t') false = true ∨ ∀ y, y < k → outG O s y = outG O t' y ∧ q.1.getD (ntf N s y * N.length + ntf N t' y) false = false
 | 0, _ => ⟨rfl, fun t' h => by omega⟩
 | t + 1, h => by
  unfold thT at h ⊢
  obtain ⟨i1, i2⟩ := thX_no k h
  rw [i1] at h
  obtain ⟨j1, j2⟩ := thT_no t h
  rw [i1, j1]
  rw [j1] at i2
  refine ⟨rfl, fun t' ht => ?_⟩
  by_cases e : t' = t
  ·subst e; exact i2
  ·exact j2 t' (by omega)
theorem thS_no {q : List Bool × Bool} : ∀ s, (thS N O k q s).2 = false → thS N O k q s = q ∧ ∀ s' t', s' < s → t' < N.length → q.1.getD (s' * N.length + t') false = true ∨ ∀ y, y < k → outG O s' y = outG O t' y ∧ q.1.getD (ntf N s' y * N.length + ntf N t' y) false = false
 | 0, _ => ⟨rfl, fun s' t' h => by omega⟩
 | s + 1, h => by
  unfold thS at h ⊢
  obtain ⟨i1, i2⟩ := thT_no N.length h
  rw [i1] at h
  obtain ⟨j1, j2⟩ := thS_no s h
  rw [i1, j1]
  rw [j1] at i2
  refine ⟨rfl, fun s' t' hs ht => ?_⟩
  by_cases e : s' = s
  ·subst e; exact i2 t' ht
  ·exact j2 s' t' (by omega) ht
theorem closed_mark (hV : VM N O k) {A : List Bool} (hd : ∀ s, s < N.length → A.getD (s * N.length + s) false = true) (hc : ∀ s' t', s' < N.length → t' < N.length → A.getD (s' * N.length + t') false = true ∨ ∀ y, y < k → outG O s' y = outG O t' y ∧ A.getD (ntf N s' y * N.length + ntf N t' y) false = false) :
  ∀ (w : List Int) (p q : Nat), p < N.length → q < N.length → (∀ c ∈ w, 0 ≤ c ∧ c < k) → decW N O true p q w → A.getD (p * N.length + q) false = true
 | [], p, q, hp, hq, _, h => by
  rcases h with h | ⟨_, h⟩
  ·exact absurd rfl h
  ·have h : (p : Int) = (q : Int) := h
   obtain rfl : p = q := by omega
   exact hd p hp
 | c :: w, p, q, hp, hq, hw, h => by
  obtain ⟨x, rfl⟩ : ∃ x : Nat, c = x := ⟨c.toNat, by have := hw c (by simp); omega⟩
  have hx : x < k := by have := hw x (by simp); omega
  rcases hc p q hp hq with hm | hm
  ·exact hm
  ·obtain ⟨h1, h2⟩ := hm x hx
   rcases (dec_cons hV hp hq hx).1 h with h3 | h3
   ·exact absurd h1 h3
   ·have := closed_mark hV hd hc w _ _ (ntf_lt hV hp hx) (ntf_lt hV hq hx) (fun c hc => hw c (by simp [hc])) h3
    rw [h2] at this; cases this
theorem thX_cnt {s t : Nat} (hs : s < N.length) (ht : t < N.length) {q : List Bool × Bool} (hq : q.1.length = N.length * N.length) : ∀ x, marks q.1 ≤ marks (thX N O s t q x).1 ∧ ((thX N O s t q x).2 = true → q.2 = true ∨ marks q.1 < marks (thX N O s t q x).1)
 | 0 => ⟨Nat.le_refl _, fun h => .inl h⟩
 | x + 1 => by
  have ih := thX_cnt hs ht hq x
  have hB : s * N.length + t < N.length * N.length := by
   have : (s + 1) * N.length ≤ N.length * N.length := Nat.mul_le_mul_right _ hs
   rw [Nat.add_mul] at this
   omega
  unfold thX
  split
  ·exact ih
  ·rename_i hm
   split
   ·have := count_set (B := (thX N O s t q x).1) (i := s * N.length + t) (by rw [thX_len, hq]; exact hB) hm
    exact ⟨show marks q.1 ≤ marks ((thX N O s t q x).1.set (s * N.length + t) true) by omega, fun _ => .inr (show marks q.1 < marks ((thX N O s t q x).1.set (s * N.length + t) true) by omega)⟩
   ·exact ih
theorem thT_cnt {s : Nat} (hs : s < N.length) {q : List Bool × Bool} (hq : q.1.length = N.length * N.length) : ∀ t, t ≤ N.length → marks q.1 ≤ marks (thT N O k s q t).1 ∧ ((thT N O k s q t).2 = true → q.2 = true ∨ marks q.1 < marks (thT N O k s q t).1)
 | 0, _ => ⟨Nat.le_refl _, fun h => .inl h⟩
 | t + 1, ht => by
  have ih := thT_cnt hs hq t (by omega)
  have h := thX_cnt (O := O) hs (show t < N.length by omega) (q := thT N O k s q t) (by rw [thT_len, hq]) k
  unfold thT
  refine ⟨by omega, fun g => ?_⟩
  rcases h.2 g with h1 | h1
  ·rcases ih.2 h1 with h2 | h2
   ·exact .inl h2
   ·exact .inr (by omega)
  ·exact .inr (by omega)
theorem thS_cnt {q : List Bool × Bool} (hq : q.1.length = N.length * N.length) : ∀ s, s ≤ N.length → marks q.1 ≤ marks (thS N O k q s).1 ∧ ((thS N O k q s).2 = true → q.2 = true ∨ marks q.1 < marks (thS N O k q s).1)
 | 0, _ => ⟨Nat.le_refl _, fun h => .inl h⟩
 | s + 1, hs => by
  have ih := thS_cnt hq s (by omega)
  have h := thT_cnt (k := k) (O := O) (show s < N.length by omega) (q := thS N O k q s) (by rw [thS_len, hq]) N.length (Nat.le_refl _)
  unfold thS
  refine ⟨by omega, fun g => ?_⟩
  rcases h.2 g with h1 | h1
  ·rcases ih.2 h1 with h2 | h2
   ·exact .inl h2
   ·exact .inr (by omega)
  ·exact .inr (by omega)
end Go.AM
end

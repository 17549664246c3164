/-
  Plain facts on the states that a word reaches; no program in sight.
-/
import Derived.Test.YthgglfpklgjibaaGreatDoorP2
set_option linter.unusedVariables false
set_option linter.unusedSimpArgs false
set_option linter.unusedSectionVars false

/-! text PlReach -/
section
namespace Go.AM
open Go
/-! the states that some word reaches -/
def dlN (N : List (List Int)) : Int → Nat → Int := fun s c => nxG N s c
/-- the states that are reached, in the order of the search -/
def finN (N : List (List Int)) (k : Nat) (s : Int) : List Int × Stp := bfs (dlN N) s k N.length
/-- the states that are reached, in order -/
def reachL (N : List (List Int)) (k : Nat) (s : Int) : List Int := fromTo N.length fun t => decide (t ∈ (finN N k s).1)
section
variable {N O : List (List Int)} {k : Nat} {s : Int}
theorem state_in (hN : VM N O k) (hs : 0 ≤ s ∧ s < N.length) {i c : Nat} {q : List Int × Stp} (h : BInv (dlN N) s k i c q) : ∀ m, m < q.1.length → 0 ≤ q.1.getD m s ∧ q.1.getD m s < N.length := by
  intro m
  induction m using Nat.strongRecOn with
  | _ m ih =>
    intro hm
    rcases Nat.eq_zero_or_pos m with rfl | h0
    · rw [h.zero]; exact hs
    · obtain ⟨j, y, _, h2, h3, _, h5⟩ := h.ent m h0 hm
      rw [h5]
      have h6 := ih j h2 (by omega)
      exact hN.nx h6.1 h6.2 h3
theorem state_len (hN : VM N O k) (hs : 0 ≤ s ∧ s < N.length) {i c : Nat} {q : List Int × Stp} (h : BInv (dlN N) s k i c q) : q.1.length ≤ N.length := by
  have hin := state_in hN hs h
  refine pigeon _ _ (fun m => (q.1.getD m s).toNat) (fun m hm => ?_) (fun m m' hm hm' he => ?_)
  · have := hin m hm; omega
  · have h1 := hin m hm
    have h2 := hin m' hm'
    exact h.nodup m m' hm hm' (by have he2 : (q.1.getD m s).toNat = (q.1.getD m' s).toNat := he; omega)
theorem finN_inv (hN : VM N O k) (hs : 0 ≤ s ∧ s < N.length) : BInv (dlN N) s k (finN N k s).1.length 0 (finN N k s) := by
  have hb : BInv (dlN N) s k N.length 0 (finN N k s) := bfs_inv _
  exact hb.done (state_len hN hs hb)
theorem mem_of_getD {l : List Int} {d t : Int} (h : t ∈ l) : ∃ m, m < l.length ∧ l.getD m d = t := by
  obtain ⟨m, hm, rfl⟩ := List.getElem_of_mem h
  exact ⟨m, hm, by simp [List.getD, hm]⟩
theorem finN_s (hN : VM N O k) (hs : 0 ≤ s ∧ s < N.length) : s ∈ (finN N k s).1 := by
  have h := finN_inv hN hs
  have h1 := getD_mem (l := (finN N k s).1) (i := 0) h.pos
  have h2 := h.zero
  have : (finN N k s).1.getD 0 0 = (finN N k s).1.getD 0 s := by
    have := h.pos
    simp [List.getD, this]
  rw [this, h2] at h1; exact h1
theorem finN_closed (hN : VM N O k) (hs : 0 ≤ s ∧ s < N.length) {t : Int} (ht : t ∈ (finN N k s).1) {x : Nat} (hx : x < k) : nxG N t x ∈ (finN N k s).1 := by
  have h := finN_inv hN hs
  obtain ⟨m, hm, rfl⟩ := mem_of_getD (d := s) ht
  obtain ⟨j, h1, h2, _⟩ := h.closed m x hm hx (.inl hm)
  have h3 : dlN N ((finN N k s).1.getD m s) x = nxG N ((finN N k s).1.getD m s) x := rfl
  rw [← h3, ← h2]
  rw [show (finN N k s).1.getD j s = (finN N k s).1[j] by simp [List.getD, h1]]
  exact List.getElem_mem h1
/-- whatever holds s and is closed holds all that is reached -/
theorem finN_least (hN : VM N O k) (hs : 0 ≤ s ∧ s < N.length) (P : Int → Prop) (h0 : P s) (hc : ∀ (t : Int) (x : Nat), (0 ≤ t ∧ t < N.length) → x < k → P t → P (nxG N t x)) : ∀ t ∈ (finN N k s).1, P t := by
  have h := finN_inv hN hs
  have hin := state_in hN hs h
  have hall : ∀ m, m < (finN N k s).1.length → P ((finN N k s).1.getD m s) := by
    intro m
    induction m using Nat.strongRecOn with
    | _ m ih =>
      intro hm
      rcases Nat.eq_zero_or_pos m with rfl | h0'
      · rw [h.zero]; exact h0
      · obtain ⟨j, y, _, h2, h3, _, h5⟩ := h.ent m h0' hm
        rw [h5]
        exact hc _ y (hin j (by omega)) h3 (ih j h2 (by omega))
  intro t ht
  obtain ⟨m, hm, rfl⟩ := mem_of_getD (d := s) ht
  exact hall m hm
theorem sortL_fin (hN : VM N O k) (hs : 0 ≤ s ∧ s < N.length) : sortL (finN N k s).1 = reachL N k s := by
  have h := finN_inv hN hs
  have hin := state_in hN hs h
  have hnd : (finN N k s).1.Nodup := by
    refine List.pairwise_iff_getElem.2 fun i j hi hj hij he => ?_
    have h1 := h.nodup i j hi hj (by simp [List.getD, hi, hj, he])
    omega
  refine lt_list_ext ?_ (fromTo_lt _ _) fun x => ?_
  · have h1 := sortL_le (finN N k s).1
    have h2 : (sortL (finN N k s).1).Nodup := (List.mergeSort_perm _ _).nodup_iff.2 hnd
    have h3 := h1.and h2
    refine h3.imp fun {a b} hab => ?_
    have := hab.1; have := hab.2; omega
  · rw [mem_sortL, reachL, mem_fromTo, decide_eq_true_eq]
    refine ⟨fun hx => ⟨?_, hx⟩, fun hx => hx.2⟩
    obtain ⟨m, hm, rfl⟩ := mem_of_getD (d := s) hx
    exact hin m hm
/-! the reference's passes -/
/-- one row's marks -/
def rowM2 (N : List (List Int)) (t : Nat) (q : List Bool × Bool) : Nat → List Bool × Bool
  | 0 => q
  | x + 1 => if (rowM2 N t q x).1.getD (nxG N t x).toNat false = true then rowM2 N t q x else ((rowM2 N t q x).1.set (nxG N t x).toNat true, true)
/-- one pass -/
def pasM (N : List (List Int)) (k : Nat) (B : List Bool) : Nat → List Bool × Bool
  | 0 => (B, false)
  | t + 1 => if (pasM N k B t).1.getD t false = true then rowM2 N t (pasM N k B t) k else pasM N k B t
theorem rowM2_len (t : Nat) (q : List Bool × Bool) : ∀ x, (rowM2 N t q x).1.length = q.1.length
  | 0 => rfl
  | x + 1 => by
    rw [rowM2]; split
    · exact rowM2_len t q x
    · simp only [List.length_set]; exact rowM2_len t q x
theorem pasM_len (B : List Bool) : ∀ t, (pasM N k B t).1.length = B.length
  | 0 => rfl
  | t + 1 => by
    rw [pasM]; split
    · rw [rowM2_len]; exact pasM_len B t
    · exact pasM_len B t
theorem getD_setB {l : List Bool} {a i : Nat} {v : Bool} : (l.set a v).getD i false = if a = i ∧ i < l.length then v else l.getD i false := by
  simp only [List.getD, List.getElem?_set]
  by_cases h : a = i
  · subst h
    by_cases h2 : a < l.length
    · simp [h2]
    · simp [h2]
  · simp [h]
/-- marks stay -/
theorem rowM2_up (t : Nat) (q : List Bool × Bool) : ∀ x i, q.1.getD i false = true → (rowM2 N t q x).1.getD i false = true
  | 0, _, h => h
  | x + 1, i, h => by
    have ih := rowM2_up t q x i h
    rw [rowM2]; split
    · exact ih
    · simp only [getD_setB, ih]; simp
theorem pasM_up (B : List Bool) {i : Nat} (h : B.getD i false = true) : ∀ t, (pasM N k B t).1.getD i false = true
  | 0 => h
  | t + 1 => by
    rw [pasM]; split
    · exact rowM2_up t _ k i (pasM_up B h t)
    · exact pasM_up B h t
/-- what marks mean -/
theorem rowM2_ok (hN : VM N O k) (hs : 0 ≤ s ∧ s < N.length) {t : Nat} (ht : (t : Int) ∈ (finN N k s).1) (q : List Bool × Bool) (hq : ∀ i, q.1.getD i false = true → (i : Int) ∈ (finN N k s).1) :
    ∀ x, x ≤ k → ∀ i, (rowM2 N t q x).1.getD i false = true → (i : Int) ∈ (finN N k s).1
  | 0, _, i, h => hq i h
  | x + 1, hx, i, h => by
    have ih := rowM2_ok hN hs ht q hq x (by omega)
    rw [rowM2] at h
    split at h
    · exact ih i h
    · simp only [getD_setB] at h
      split at h
      · rename_i hc
        have h1 := finN_closed hN hs ht (show x < k by omega)
        have h2 := finN_least hN hs (fun (t : Int) => 0 ≤ t) hs.1 (fun t x h3 h4 _ => (hN.nx h3.1 h3.2 h4).1) _ h1
        rw [show (i : Int) = nxG N t x by omega]; exact h1
      · exact ih i h
theorem pasM_ok (hN : VM N O k) (hs : 0 ≤ s ∧ s < N.length) (B : List Bool) (hB : ∀ i, B.getD i false = true → (i : Int) ∈ (finN N k s).1) : ∀ t i, (pasM N k B t).1.getD i false = true → (i : Int) ∈ (finN N k s).1
  | 0, i, h => hB i h
  | t + 1, i, h => by
    have ih := pasM_ok hN hs B hB t
    rw [pasM] at h
    split at h
    · rename_i ht
      exact rowM2_ok hN hs (ih t ht) _ ih k (Nat.le_refl _) i h
    · exact ih i h
/-- a pass that marks nothing: all is closed -/
theorem rowM2_no (t : Nat) (q : List Bool × Bool) : ∀ x, (rowM2 N t q x).2 = false → rowM2 N t q x = q ∧ ∀ y, y < x → q.1.getD (nxG N t y).toNat false = true
  | 0, _ => ⟨rfl, fun y hy => absurd hy (Nat.not_lt_zero _)⟩
  | x + 1, h => by
    rw [rowM2] at h ⊢
    split at h
    · rename_i hc
      obtain ⟨h1, h2⟩ := rowM2_no t q x h
      rw [if_pos hc]
      refine ⟨h1, fun y hy => ?_⟩
      rcases Nat.lt_succ_iff_lt_or_eq.1 hy with hy | rfl
      · exact h2 y hy
      · rw [← h1]; exact hc
    · cases h
theorem pasM_no (B : List Bool) : ∀ t, (pasM N k B t).2 = false → (pasM N k B t).1 = B ∧ ∀ j, j < t → B.getD j false = true → ∀ y, y < k → B.getD (nxG N j y).toNat false = true
  | 0, _ => ⟨rfl, fun j hj => absurd hj (Nat.not_lt_zero _)⟩
  | t + 1, h => by
    rw [pasM] at h ⊢
    split at h
    · rename_i hc
      obtain ⟨h1, h2⟩ := rowM2_no t _ k h
      rw [h1] at h
      obtain ⟨h3, h4⟩ := pasM_no B t h
      rw [if_pos hc, h1]
      refine ⟨h3, fun j hj hb y hy => ?_⟩
      rcases Nat.lt_succ_iff_lt_or_eq.1 hj with hj | rfl
      · exact h4 j hj hb y hy
      · have := h2 y hy
        rwa [h3] at this
    · rename_i hc
      obtain ⟨h3, h4⟩ := pasM_no B t h
      rw [if_neg hc]
      refine ⟨h3, fun j hj hb y hy => ?_⟩
      rcases Nat.lt_succ_iff_lt_or_eq.1 hj with hj | rfl
      · exact h4 j hj hb y hy
      · rw [h3] at hc; exact absurd hb hc
/-- how many marks -/
def marks (B : List Bool) : Nat := B.count true
theorem count_set : ∀ {B : List Bool} {i : Nat}, i < B.length → B.getD i false ≠ true → marks (B.set i true) = marks B + 1
  | b :: B, 0, _, h => by
    have : b = false := by simpa using h
    subst this; simp [marks]
  | b :: B, i + 1, hl, h => by
    have ih := count_set (B := B) (i := i) (by simpa using hl) (by simpa using h)
    simp only [marks, List.set_cons_succ, List.count_cons] at ih ⊢
    omega
theorem rowM2_cnt (hN : VM N O k) {t : Nat} (ht : t < N.length) (q : List Bool × Bool) (hq : q.1.length = N.length) : ∀ x, x ≤ k → marks q.1 ≤ marks (rowM2 N t q x).1 ∧ ((rowM2 N t q x).2 = true → q.2 = true ∨ marks q.1 < marks (rowM2 N t q x).1)
  | 0, _ => ⟨Nat.le_refl _, fun h => .inl h⟩
  | x + 1, hx => by
    have ih := rowM2_cnt hN ht q hq x (by omega)
    rw [rowM2]; split
    · exact ih
    · rename_i hc
      have h1 := hN.nx (s := (t : Int)) (c := x) (by omega) (by omega) (by omega)
      have h2 := count_set (B := (rowM2 N t q x).1) (i := (nxG N t x).toNat) (by rw [rowM2_len]; omega) hc
      simp only
      rw [h2]
      exact ⟨by omega, fun _ => .inr (by omega)⟩
theorem pasM_cnt (hN : VM N O k) (B : List Bool) (hB : B.length = N.length) : ∀ t, t ≤ N.length → marks B ≤ marks (pasM N k B t).1 ∧ ((pasM N k B t).2 = true → marks B < marks (pasM N k B t).1)
  | 0, _ => ⟨Nat.le_refl _, fun h => by cases h⟩
  | t + 1, ht => by
    have ih := pasM_cnt hN B hB t (by omega)
    rw [pasM]; split
    · have h1 := rowM2_cnt hN (t := t) (by omega) (pasM N k B t) (by rw [pasM_len]; exact hB) k (Nat.le_refl _)
      refine ⟨by omega, fun h => ?_⟩
      rcases h1.2 h with h2 | h2
      · have := ih.2 h2; omega
      · omega
    · exact ih
theorem marks_le (B : List Bool) : marks B ≤ B.length := List.count_le_length
/-- when a pass has marked nothing, the marks are the states that are reached -/
theorem marks_done (hN : VM N O k) (hs : 0 ≤ s ∧ s < N.length) {B : List Bool} (h0 : B.getD s.toNat false = true) (hB : ∀ i, B.getD i false = true → (i : Int) ∈ (finN N k s).1) (hc : ∀ j, j < N.length → B.getD j false = true → ∀ y, y < k → B.getD (nxG N j y).toNat false = true) {t : Nat} :
    B.getD t false = decide ((t : Int) ∈ (finN N k s).1) := by
  rw [Bool.eq_iff_iff, decide_eq_true_eq]
  refine ⟨hB t, fun h => ?_⟩
  have := finN_least hN hs (fun (t : Int) => B.getD t.toNat false = true) h0 (fun t x h1 h2 h3 => by
    have := hc t.toNat (by omega) h3 x h2
    rwa [show ((t.toNat : Nat) : Int) = t by omega] at this) _ h
  simpa using this
end
end Go.AM
end

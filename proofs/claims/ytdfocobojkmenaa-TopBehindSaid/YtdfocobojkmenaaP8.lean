/-
  The W-method in plain Lean: a machine that passes the suite answers alike to every word; no program in sight.
-/
import Derived.Test.YtdfocobojkmenaaP7
set_option linter.unusedVariables false
set_option linter.unusedSimpArgs false
set_option linter.unusedSectionVars false
set_option linter.unnecessarySimpa false

/-! text PlWm -/
section
namespace Go.AM
open Go
open Classical
/-! a sequence of sets that grows no more -/
noncomputable def crd (m : Nat) (P : Nat → Prop) : Nat := ((List.range m).filter fun q => decide (P q)).length
theorem crd_le (m : Nat) (P : Nat → Prop) : crd m P ≤ m := by
  have := List.length_filter_le (fun q => decide (P q)) (List.range m)
  rwa [List.length_range] at this
theorem crd_mono {P Q : Nat → Prop} (h : ∀ q, P q → Q q) : ∀ m, crd m P ≤ crd m Q
  | 0 => by simp [crd]
  | m + 1 => by
    have ih := crd_mono h m
    unfold crd at ih ⊢
    rw [List.range_succ, List.filter_append, List.filter_append, List.length_append, List.length_append]
    have : ((List.filter (fun q => decide (P q)) [m]).length) ≤ ((List.filter (fun q => decide (Q q)) [m]).length) := by
      by_cases hp : P m
      · simp [List.filter, hp, h m hp]
      · simp [List.filter, hp]
    omega
theorem crd_lt {P Q : Nat → Prop} (h : ∀ q, P q → Q q) {q : Nat} (h1 : Q q) (h2 : ¬ P q) : ∀ m, q < m → crd m P + 1 ≤ crd m Q
  | 0, hm => by omega
  | m + 1, hm => by
    by_cases e : q = m
    · subst e
      have ih := crd_mono h q
      unfold crd at ih ⊢
      rw [List.range_succ, List.filter_append, List.filter_append, List.length_append, List.length_append]
      simp [List.filter, h1, h2]; omega
    · have ih := crd_lt h h1 h2 m (by omega)
      have h3 : ((List.filter (fun q => decide (P q)) [m]).length) ≤ ((List.filter (fun q => decide (Q q)) [m]).length) := by
        by_cases hp : P m
        · simp [List.filter, hp, h m hp]
        · simp [List.filter, hp]
      unfold crd at ih ⊢
      rw [List.range_succ, List.filter_append, List.filter_append, List.length_append, List.length_append]
      omega
theorem crd_inj {P : Nat → Prop} {n m : Nat} (f : Nat → Nat) (h1 : ∀ s, s < n → f s < m ∧ P (f s)) (h2 : ∀ s t, s < n → t < n → f s = f t → s = t) : n ≤ crd m P := by
  unfold crd
  have hm : ∀ s, s < n → f s ∈ (List.range m).filter fun q => decide (P q) := fun s hs => List.mem_filter.2 ⟨List.mem_range.2 (h1 s hs).1, decide_eq_true (h1 s hs).2⟩
  refine pigeon _ _ (fun s => ((List.range m).filter fun q => decide (P q)).idxOf (f s)) (fun s hs => List.idxOf_lt_length_of_mem (hm s hs)) (fun s t hs ht he => h2 s t hs ht ?_)
  have a := List.getElem_idxOf (List.idxOf_lt_length_of_mem (hm s hs))
  have b := List.getElem_idxOf (List.idxOf_lt_length_of_mem (hm t ht))
  rw [← a, ← b]
  simp only [he]
theorem crd_stop {n m e : Nat} (P : Nat → Nat → Prop) (hmono : ∀ i q, P i q → P (i + 1) q) (h0 : n ≤ crd m (P 0)) (hm : m ≤ n + e) : ∃ i, i ≤ e ∧ ∀ q, q < m → P (i + 1) q → P i q := by
  refine Classical.byContradiction fun hno => ?_
  have h : ∀ i, i ≤ e + 1 → n + i ≤ crd m (P i) := by
    intro i
    induction i with
    | zero => intro _; exact h0
    | succ i ih =>
      intro hi
      have h1 := ih (by omega)
      have h2 : ¬ ∀ q, q < m → P (i + 1) q → P i q := fun h => hno ⟨i, by omega, h⟩
      obtain ⟨q, h3⟩ := Classical.not_forall.1 h2
      obtain ⟨h4, h5⟩ := Classical.not_imp.1 h3
      obtain ⟨h6, h7⟩ := Classical.not_imp.1 h5
      have := crd_lt (hmono i) h6 h7 m h4
      omega
  have h1 := h (e + 1) (Nat.le_refl _)
  have h2 := crd_le m (P (e + 1))
  omega
/-! the test suite is enough -/
section
variable {N O M Q : List (List Int)} {k e : Nat}
/-- the words that a suite begins with -/
def isPre (N : List (List Int)) (k i : Nat) (p : List Int) : Prop := ∃ s v, s < N.length ∧ v.length ≤ i ∧ (∀ x ∈ v, 0 ≤ x ∧ x < (k : Int)) ∧ p = (covL N k).getD s [] ++ v
theorem isPre_let (hV : VM N O k) (hA : allC N k = true) {i : Nat} {p : List Int} (h : isPre N k i p) : ∀ x ∈ p, (0 : Int) ≤ x ∧ x < (k : Int) := by
  obtain ⟨s, v, hs, _, hv, rfl⟩ := h
  have h1 := (cov_spec hV hA (t := (s : Int)) ⟨by omega, by omega⟩).2
  rw [Int.toNat_natCast] at h1
  intro x hx
  rcases List.mem_append.1 hx with hx | hx
  · exact h1 x hx
  · exact hv x hx
/-- both machines answer alike after p -/
def agr (N O M Q : List (List Int)) (k : Nat) (p : List Int) : Prop := outsG N O 0 p = outsG M Q 0 p ∧ ∀ t ∈ telL N O k, outsG N O (leadG N 0 p) t = outsG M Q (leadG M 0 p) t
theorem suite_enough (hN : VM N O k) (hM : VM M Q k) (hA : allC N k = true) (hC : cntT N O k = N.length) (hl : M.length ≤ N.length + e)
    (hT : ∃ t, t ∈ telL N O k) (hS : ∀ p t, isPre N k (e + 1) p → t ∈ telL N O k → outsG N O 0 (p ++ t) = outsG M Q 0 (p ++ t)) (w : List Int) (hw : ∀ x ∈ w, (0 : Int) ≤ x ∧ x < (k : Int)) : outsG N O 0 w = outsG M Q 0 w := by
  have hn1 := hN.v.n1
  have hm1 := hM.v.n1
  have hag : ∀ p, isPre N k (e + 1) p → agr N O M Q k p := fun p hp => by
    have key : ∀ t ∈ telL N O k, outsG N O 0 p = outsG M Q 0 p ∧ outsG N O (leadG N 0 p) t = outsG M Q (leadG M 0 p) t := fun t ht => by
      have h := hS p t hp ht
      rw [outsG_append, outsG_append] at h
      exact List.append_inj h (by rw [outsG_len, outsG_len])
    obtain ⟨t, ht⟩ := hT
    exact ⟨(key t ht).1, fun t ht => (key t ht).2⟩
  have hln : ∀ p, (∀ x ∈ p, (0 : Int) ≤ x ∧ x < (k : Int)) → 0 ≤ leadG N 0 p ∧ leadG N 0 p < N.length := fun p hp => hN.v.lead p (Int.le_refl 0) (by omega) hp
  have hlm : ∀ p, (∀ x ∈ p, (0 : Int) ≤ x ∧ x < (k : Int)) → 0 ≤ leadG M 0 p ∧ leadG M 0 p < M.length := fun p hp => hM.v.lead p (Int.le_refl 0) (by omega) hp
  -- states with the same answers are one
  have huq : ∀ a b : Int, (0 ≤ a ∧ a < N.length) → (0 ≤ b ∧ b < N.length) → (∀ t ∈ telL N O k, outsG N O a t = outsG N O b t) → a = b := fun a b ha hb h => by
    refine Classical.byContradiction fun hne => ?_
    have e1 : ((a.toNat : Nat) : Int) = a := by omega
    have e2 : ((b.toNat : Nat) : Int) = b := by omega
    rcases Nat.lt_trichotomy a.toNat b.toNat with hlt | heq | hlt
    · obtain ⟨t, ht, hd⟩ := tel_tells hN hC hlt (by omega)
      rw [e1, e2] at hd
      exact hd (h t ht).symm
    · omega
    · obtain ⟨t, ht, hd⟩ := tel_tells hN hC hlt (by omega)
      rw [e1, e2] at hd
      exact hd (h t ht)
  have hsame : ∀ p p', isPre N k (e + 1) p → isPre N k (e + 1) p' → leadG M 0 p = leadG M 0 p' → leadG N 0 p = leadG N 0 p' := fun p p' hp hp' h => by
    refine huq _ _ (hln p (isPre_let hN hA hp)) (hln p' (isPre_let hN hA hp')) fun t ht => ?_
    rw [(hag p hp).2 t ht, (hag p' hp').2 t ht, h]
  have hup : ∀ i j p, i ≤ j → isPre N k i p → isPre N k j p := fun i j p hij ⟨s, v, h1, h2, h3, h4⟩ => ⟨s, v, h1, by omega, h3, h4⟩
  -- the states of the other machine that the words lead to
  let P : Nat → Nat → Prop := fun i q => ∃ p, isPre N k i p ∧ leadG M 0 p = (q : Int)
  have hmono : ∀ i q, P i q → P (i + 1) q := fun i q ⟨p, h1, h2⟩ => ⟨p, hup i (i + 1) p (by omega) h1, h2⟩
  have hp0 : ∀ s, s < N.length → isPre N k 0 ((covL N k).getD s []) := fun s hs => ⟨s, [], hs, by simp, by simp, by simp⟩
  have h0 : N.length ≤ crd M.length (P 0) := by
    refine crd_inj (fun s => (leadG M 0 ((covL N k).getD s [])).toNat) (fun s hs => ?_) (fun s t hs ht he => ?_)
    · have h1 := hlm _ (isPre_let hN hA (hp0 s hs))
      exact ⟨by omega, ⟨_, hp0 s hs, by omega⟩⟩
    · have h1 := hlm _ (isPre_let hN hA (hp0 s hs))
      have h2 := hlm _ (isPre_let hN hA (hp0 t ht))
      have h3 := hsame _ _ (hup 0 (e + 1) _ (by omega) (hp0 s hs)) (hup 0 (e + 1) _ (by omega) (hp0 t ht)) (by omega)
      have h4 := (cov_spec hN hA (t := (s : Int)) ⟨by omega, by omega⟩).1
      have h5 := (cov_spec hN hA (t := (t : Int)) ⟨by omega, by omega⟩).1
      rw [Int.toNat_natCast] at h4 h5
      omega
  obtain ⟨i, hie, hst⟩ := crd_stop P hmono h0 hl
  have hcl : ∀ j q, q < M.length → P (i + j) q → P i q := by
    intro j
    induction j with
    | zero => intro q _ h; exact h
    | succ j ih =>
      intro q hq ⟨p, ⟨s, v, h1, h2, h3, h4⟩, h5⟩
      by_cases hv : v.length ≤ i + j
      · exact ih q hq ⟨p, ⟨s, v, h1, hv, h3, h4⟩, h5⟩
      · obtain ⟨v', y, rfl⟩ : ∃ v' y, v = v' ++ [y] := ⟨v.dropLast, v.getLast (fun e => by simp [e] at hv), (List.dropLast_concat_getLast _).symm⟩
        have hy := h3 y (by simp)
        have hv' : ∀ x ∈ v', (0 : Int) ≤ x ∧ x < (k : Int) := fun x hx => h3 x (by simp [hx])
        have hpre : isPre N k (i + j) ((covL N k).getD s [] ++ v') := ⟨s, v', h1, by simp at h2; omega, hv', rfl⟩
        have hl1 := hlm _ (isPre_let hN hA hpre)
        obtain ⟨p', hp1, hp2⟩ := ih (leadG M 0 ((covL N k).getD s [] ++ v')).toNat (by omega) ⟨_, hpre, by omega⟩
        have hp3 : leadG M 0 p' = leadG M 0 ((covL N k).getD s [] ++ v') := by omega
        refine hst q hq ⟨p' ++ [y], ?_, ?_⟩
        · obtain ⟨s', u', g1, g2, g3, g4⟩ := hp1
          refine ⟨s', u' ++ [y], g1, by simp; omega, fun x hx => ?_, by rw [g4, List.append_assoc]⟩
          rcases List.mem_append.1 hx with hx | hx
          · exact g3 x hx
          · simp only [List.mem_singleton] at hx; omega
        · rw [leadG_append, hp3, ← leadG_append, List.append_assoc, ← h4]; exact h5
  have hback : ∀ p, isPre N k (e + 1) p → ∃ p', isPre N k e p' ∧ leadG M 0 p' = leadG M 0 p ∧ leadG N 0 p' = leadG N 0 p := fun p hp => by
    have h1 := hlm p (isPre_let hN hA hp)
    obtain ⟨p', h2, h3⟩ := hcl (e + 1 - i) (leadG M 0 p).toNat (by omega) ⟨p, by rw [show i + (e + 1 - i) = e + 1 by omega]; exact hp, by omega⟩
    have h4 : leadG M 0 p' = leadG M 0 p := by omega
    exact ⟨p', hup i e p' hie h2, h4, hsame p' p (hup i (e + 1) p' (by omega) h2) hp h4⟩
  -- every word is led along
  have main : ∀ n (w : List Int), w.length = n → (∀ x ∈ w, (0 : Int) ≤ x ∧ x < (k : Int)) → outsG N O 0 w = outsG M Q 0 w ∧ ∃ p, isPre N k e p ∧ leadG M 0 p = leadG M 0 w ∧ leadG N 0 p = leadG N 0 w := by
    intro n
    induction n with
    | zero =>
      intro w hl _
      have : w = [] := List.length_eq_zero_iff.1 hl
      subst this
      exact ⟨rfl, (covL N k).getD 0 [], hup 0 e _ (by omega) (hp0 0 (by omega)), by rw [cov_zero hN], by rw [cov_zero hN]⟩
    | succ n ih =>
      intro w hl hw
      obtain ⟨v, y, rfl⟩ : ∃ v y, w = v ++ [y] := ⟨w.dropLast, w.getLast (fun e => by simp [e] at hl), (List.dropLast_concat_getLast _).symm⟩
      have hy := hw y (by simp)
      obtain ⟨h1, p, h2, h3, h4⟩ := ih v (by simpa using hl) fun x hx => hw x (by simp [hx])
      have hpy : isPre N k (e + 1) (p ++ [y]) := by
        obtain ⟨s', u', g1, g2, g3, g4⟩ := h2
        refine ⟨s', u' ++ [y], g1, by simp; omega, fun x hx => ?_, by rw [g4, List.append_assoc]⟩
        rcases List.mem_append.1 hx with hx | hx
        · exact g3 x hx
        · simp only [List.mem_singleton] at hx; omega
      have h5 := (hag _ hpy).1
      rw [outsG_append, outsG_append] at h5
      have h6 := (List.append_inj h5 (by rw [outsG_len, outsG_len])).2
      rw [h3, h4] at h6
      obtain ⟨p', g1, g2, g3⟩ := hback _ hpy
      refine ⟨by rw [outsG_append, outsG_append, h1, h6], p', g1, ?_, ?_⟩
      · rw [g2, leadG_append, leadG_append, h3]
      · rw [g3, leadG_append, leadG_append, h4]
  exact (main _ w rfl hw).1
end
end Go.AM
end

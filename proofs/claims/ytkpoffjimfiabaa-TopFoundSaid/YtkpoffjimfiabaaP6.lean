/-
  Plain facts on the search for the state; no program in sight.
-/
import Derived.Test.YtkpoffjimfiabaaP4
import Derived.Test.YtkpoffjimfiabaaP3
import Derived.Test.YtkpoffjimfiabaaP2
import Derived.Test.YtkpoffjimfiabaaP1
set_option linter.unusedVariables false
set_option linter.unusedSimpArgs false
set_option linter.unusedSectionVars false
set_option linter.unnecessarySimpa false

section
namespace Go.AM
open Go Go.Proofs
theorem cnt_const {f : Nat → Int} {n : Nat} {P : List Int} (hlt : P.Pairwise (· < ·)) (hst : ∀ p ∈ P, 0 ≤ p ∧ p < n) (hc : ∀ p ∈ P, ∀ q ∈ P, f p.toNat = f q.toNat) : cntF (keyE f) n + P.length ≤ n + 1 := by
 match P, hlt, hst, hc with
 | [], _, _, _ => have := cntF_le (keyE f) n; simp; omega
 | p0 :: P, hlt, hst, hc =>
  have hlt0 := List.pairwise_cons.1 hlt
  -- firsts and the rest of P are different states
  have hnf : ∀ p ∈ P, isF (keyE f) p.toNat = false := fun p hp => by
   cases h : isF (keyE f) p.toNat with
   | false => rfl
   | true =>
    have h1 := hlt0.1 p hp
    have h2 := hst p0 (by simp)
    exact absurd (hc p (by simp [hp]) p0 (by simp)) (isF_iff.1 h p0.toNat (by omega))
  have hall : ∀ x ∈ firsts (keyE f) n ++ P.map Int.toNat, x < n := fun x hx => by
   rcases List.mem_append.1 hx with hx | hx
   ·exact List.mem_range.1 (List.mem_filter.1 hx).1
   ·obtain ⟨p, hp, rfl⟩ := List.mem_map.1 hx
    have := hst p (by simp [hp])
    omega
  have hnd : (firsts (keyE f) n ++ P.map Int.toNat).Pairwise (· ≠ ·) := by
   refine List.pairwise_append.2 ⟨?_, ?_, ?_⟩
   ·exact (List.pairwise_lt_range.filter _).imp fun {a b} h => Nat.ne_of_lt h
   ·refine List.pairwise_map.2 (hlt0.2.imp_of_mem fun {a b} ha hb h => ?_)
    have := hst a (by simp [ha])
    omega
   ·intro a ha b hb e
    obtain ⟨p, hp, rfl⟩ := List.mem_map.1 hb
    have h1 := (List.mem_filter.1 ha).2
    rw [e, hnf p hp] at h1
    cases h1
  have hlen : (firsts (keyE f) n ++ P.map Int.toNat).length ≤ n := by
   refine pigeon n _ (fun m => (firsts (keyE f) n ++ P.map Int.toNat).getD m 0) (fun m hm => hall _ (by simp only [List.getD_eq_getElem?_getD, List.getElem?_eq_getElem hm, Option.getD_some]; exact List.getElem_mem _)) fun m m' hm hm' e => ?_
   simp only [List.getD_eq_getElem?_getD, List.getElem?_eq_getElem hm, List.getElem?_eq_getElem hm', Option.getD_some] at e
   rcases Nat.lt_trichotomy m m' with h | h | h
   ·exact absurd e (List.pairwise_iff_getElem.1 hnd m m' hm hm' h)
   ·exact h
   ·exact absurd e.symm (List.pairwise_iff_getElem.1 hnd m' m hm' hm h)
  rw [List.length_append, firsts_len, List.length_map] at hlen
  rw [List.length_cons]
  omega
section
variable {N O : List (List Int)} {k : Nat}
theorem moore_set (hN : CM N k) (hmin : cntT N O k = N.length) {P : List Int} (hlt : P.Pairwise (· < ·)) (hst : ∀ p ∈ P, 0 ≤ p ∧ p < (N.length : Int)) (h2 : 2 ≤ P.length) :
  ∃ p ∈ P, ∃ q ∈ P, p ≠ q ∧ ∃ w : List Int, w.length ≤ N.length - P.length + 1 ∧ (∀ c ∈ w, 0 ≤ c ∧ c < (k : Int)) ∧ outsG N O p w ≠ outsG N O q w := by
 have hPn : P.length ≤ N.length := by
  have := cnt_const (f := fun _ => 0) (n := N.length) hlt hst (fun _ _ _ _ => rfl)
  have h1 : 1 ≤ cntF (keyE fun _ => (0 : Int)) N.length := by
   have : isF (keyE fun _ => (0 : Int)) 0 = true := isF_iff.2 fun t h => by omega
   have := cntF_lt (E := keyE fun _ => (0 : Int)) (i := 0) (j := N.length) hN.n1 this
   omega
  omega
 generalize hl : N.length - P.length + 1 = l
 have hcnt : l + 1 ≤ cntI N O k l := by
  by_cases hg : ∀ j, j < l → cntI N O k (j + 1) ≠ cntI N O k j
  ·exact hN.grow l hg
  ·obtain ⟨j, hj, he⟩ : ∃ j, j < l ∧ cntI N O k (j + 1) = cntI N O k j := Classical.byContradiction fun h => hg fun j hj he => h ⟨j, hj, he⟩
   have hs := hN.stable he
   have h1 := clsI_from hs (l - j)
   have h3 := clsI_from hs (N.length - j)
   rw [show j + (l - j) = l by omega] at h1
   rw [show j + (N.length - j) = N.length by omega] at h3
   have h4 : cntI N O k l = cntT N O k := by unfold cntT cntI; rw [h1, h3]
   rw [h4, hmin]; omega
 by_cases hc : ∀ p ∈ P, ∀ q ∈ P, atC (clsI N O k l) p.toNat = atC (clsI N O k l) q.toNat
 ·have := cnt_const (f := atC (clsI N O k l)) (n := N.length) hlt hst hc
  unfold cntI at hcnt
  omega
 ·obtain ⟨p, hp, q, hq, hne⟩ : ∃ p, p ∈ P ∧ ∃ q, q ∈ P ∧ atC (clsI N O k l) p.toNat ≠ atC (clsI N O k l) q.toNat := Classical.byContradiction fun h => hc fun p hp q hq => Classical.byContradiction fun hne => h ⟨p, hp, q, hq, hne⟩
  have h1 := hst p hp
  have h2 := hst q hq
  obtain ⟨w, w1, w2, w3⟩ := hN.word l p.toNat q.toNat (by omega) (by omega) hne
  rw [show ((p.toNat : Nat) : Int) = p by omega, show ((q.toNat : Nat) : Int) = q by omega] at w3
  exact ⟨p, hp, q, hq, fun e => hne (by rw [e]), w, w1, w2, w3⟩
def IsBest (N O : List (List Int)) (k : Nat) (P : List Int) (w : List Int) : Prop :=
 (∀ c ∈ w, 0 ≤ c ∧ c < (k : Int)) ∧ (∃ p ∈ P, ∃ q ∈ P, outsG N O p w ≠ outsG N O q w) ∧ ∀ v : List Int, (∀ c ∈ v, 0 ≤ c ∧ c < (k : Int)) → (∃ p ∈ P, ∃ q ∈ P, outsG N O p v ≠ outsG N O q v) → leB w v
def posL (N O : List (List Int)) (s : Int) (w P : List Int) : List Int := setL ((P.filter fun p => decide (outsG N O p w = outsG N O s w)).map fun p => leadG N p w)
theorem mem_posL {s : Int} {w P : List Int} {t : Int} : t ∈ posL N O s w P ↔ ∃ p ∈ P, outsG N O p w = outsG N O s w ∧ leadG N p w = t := by
 unfold posL
 rw [mem_setL]
 simp [and_assoc]
theorem setL_len (l : List Int) : (setL l).length ≤ l.length := by
 have hlt := setL_lt l
 have hmem : ∀ m (h : m < (setL l).length), (setL l)[m] ∈ l := fun m h => mem_setL.1 (List.getElem_mem h)
 refine pigeon l.length _ (fun m => l.idxOf ((setL l).getD m 0)) (fun m hm => ?_) fun m m' hm hm' e => ?_
 ·simp only [List.getD_eq_getElem?_getD, List.getElem?_eq_getElem hm, Option.getD_some]
  exact List.idxOf_lt_length_of_mem (hmem m hm)
 ·simp only [List.getD_eq_getElem?_getD, List.getElem?_eq_getElem hm, List.getElem?_eq_getElem hm', Option.getD_some] at e
  have h1 := List.getElem_idxOf (List.idxOf_lt_length_of_mem (hmem m hm))
  have h2 := List.getElem_idxOf (List.idxOf_lt_length_of_mem (hmem m' hm'))
  have h3 : (setL l)[m] = (setL l)[m'] := by rw [← h1, ← h2]; simp only [e]
  rcases Nat.lt_trichotomy m m' with h | h | h
  ·have := List.pairwise_iff_getElem.1 hlt m m' hm hm' h; omega
  ·exact h
  ·have := List.pairwise_iff_getElem.1 hlt m' m hm' hm h; omega
theorem filter_lt {α : Type} {p : α → Bool} : ∀ {l : List α}, (∃ x ∈ l, p x = false) → (l.filter p).length < l.length
 | [], h => by obtain ⟨x, hx, _⟩ := h; simp at hx
 | y :: l, h => by
  by_cases hy : p y = true
  ·obtain ⟨x, hx, hp⟩ := h
   rcases List.mem_cons.1 hx with rfl | hx
   ·rw [hy] at hp; cases hp
   ·have := filter_lt (l := l) ⟨x, hx, hp⟩
    rw [List.filter_cons_of_pos hy, List.length_cons, List.length_cons]
    omega
  ·have := List.length_filter_le p l
   rw [List.filter_cons_of_neg hy, List.length_cons]
   omega
theorem posL_lt {s : Int} {w P : List Int} (h : ∃ p ∈ P, ∃ q ∈ P, outsG N O p w ≠ outsG N O q w) : (posL N O s w P).length < P.length := by
 refine Nat.lt_of_le_of_lt (setL_len _) ?_
 rw [List.length_map]
 refine filter_lt ?_
 obtain ⟨p, hp, q, hq, hne⟩ := h
 by_cases e : outsG N O p w = outsG N O s w
 ·exact ⟨q, hq, by simpa using fun e2 => hne (e.trans e2.symm)⟩
 ·exact ⟨p, hp, by simpa using e⟩
inductive Chn (N O : List (List Int)) (k : Nat) (s0 : Int) : Nat → List Int → Int → List Int → Prop
 | nil : Chn N O k s0 0 [] s0 (allS N.length)
 | step {j v s P w} (h : Chn N O k s0 j v s P) (h2 : 2 ≤ P.length) (hb : IsBest N O k P w) : Chn N O k s0 (j + 1) (v ++ w) (leadG N s w) (posL N O s w P)
def budG (n : Nat) : Nat → Nat
 | 0 => 0
 | 1 => 0
 | m + 2 => budG n (m + 1) + (n - (m + 2) + 1)
theorem budG_mono {n : Nat} {a b : Nat} (h : a ≤ b) : budG n a ≤ budG n b := by
 induction b with
 | zero =>
  obtain rfl : a = 0 := by omega
  exact Nat.le_refl _
 | succ b ih =>
  by_cases e : a = b + 1
  ·rw [e]; exact Nat.le_refl _
  ·have h1 := ih (by omega)
   have h2 : budG n b ≤ budG n (b + 1) := by
    cases b with
    | zero => exact Nat.zero_le _
    | succ b => rw [budG.eq_3]; omega
   omega
theorem budG_val {n : Nat} : ∀ m, m + 1 ≤ n → 2 * budG n (m + 1) = m * (2 * n - (m + 1))
 | 0, _ => by simp [budG]
 | m + 1, h => by
  have ih := budG_val (n := n) m (by omega)
  rw [budG.eq_3, Nat.mul_add, ih]
  obtain ⟨d, rfl⟩ : ∃ d, n = d + (m + 2) := ⟨n - (m + 2), by omega⟩
  rw [show d + (m + 2) - (m + 2) = d by omega, show 2 * (d + (m + 2)) - (m + 1) = 2 * d + m + 3 by omega, show 2 * (d + (m + 2)) - (m + 1 + 1) = 2 * d + m + 2 by omega]
  simp only [Nat.add_mul, Nat.mul_add, Nat.one_mul, Nat.mul_one]
  omega
theorem budG_all {n : Nat} : 2 * budG n n ≤ n * (n - 1) := by
 cases n with
 | zero => simp [budG]
 | succ m =>
  rw [budG_val m (Nat.le_refl _), show 2 * (m + 1) - (m + 1) = m + 1 by omega, show m + 1 - 1 = m by omega, Nat.mul_comm]
  exact Nat.le_refl _
structure SkOk (N O : List (List Int)) (k : Nat) (s0 : Int) (v : List Int) (s : Int) (P : List Int) : Prop where
 lt : P.Pairwise (· < ·)
 st : ∀ p ∈ P, 0 ≤ p ∧ p < (N.length : Int)
 at_ : s = leadG N s0 v
 mem : s ∈ P
 word : ∀ c ∈ v, 0 ≤ c ∧ c < (k : Int)
 all : ∀ y : Int, 0 ≤ y ∧ y < N.length → outsG N O y v = outsG N O s0 v → leadG N y v ∈ P
 bud : v.length + budG N.length P.length ≤ budG N.length N.length
theorem allS_len (n : Nat) : (allS n).length = n := by simp [allS]
theorem Chn.ok (hV : VM N O k) (hmin : cntT N O k = N.length) {s0 : Int} (h0 : 0 ≤ s0 ∧ s0 < N.length) {j : Nat} {v : List Int} {s : Int} {P : List Int} (h : Chn N O k s0 j v s P) : SkOk N O k s0 v s P := by
 induction h with
 | nil =>
  exact ⟨allS_lt _, fun p hp => mem_allS.1 hp, rfl, mem_allS.2 h0, fun c h => by simp at h, fun y hy _ => mem_allS.2 hy, by simp [allS_len]⟩
 | @step j v s P w h h2 hb ih =>
  have hs := ih.st s ih.mem
  have hlw : ∀ y : Int, 0 ≤ y ∧ y < N.length → 0 ≤ leadG N y w ∧ leadG N y w < N.length := fun y hy => hV.v.lead w hy.1 hy.2 hb.1
  refine ⟨setL_lt _, fun t ht => ?_, ?_, mem_posL.2 ⟨s, ih.mem, rfl, rfl⟩, fun c hc => ?_, fun y hy ho => ?_, ?_⟩
  ·obtain ⟨p, hp, _, rfl⟩ := mem_posL.1 ht
   exact hlw p (ih.st p hp)
  ·rw [leadG_append, ← ih.at_]
  ·rcases List.mem_append.1 hc with hc | hc
   ·exact ih.word c hc
   ·exact hb.1 c hc
  ·rw [outsG_append, outsG_append] at ho
   have hlen : (outsG N O y v).length = (outsG N O s0 v).length := by rw [outsG_len, outsG_len]
   obtain ⟨e1, e2⟩ := List.append_inj ho hlen
   rw [leadG_append]
   exact mem_posL.2 ⟨leadG N y v, ih.all y hy e1, by rw [e2, ih.at_], rfl⟩
  ·obtain ⟨p, hp, q, hq, _, u, u1, u2, u3⟩ := moore_set hV.cm hmin ih.lt ih.st h2
   have h3 := leB_len (hb.2.2 u u2 ⟨p, hp, q, hq, u3⟩)
   have h4 := posL_lt (N := N) (O := O) (s := s) hb.2.1
   have h5 := budG_mono (n := N.length) (show (posL N O s w P).length ≤ P.length - 1 by omega)
   have h6 : budG N.length P.length = budG N.length (P.length - 1) + (N.length - P.length + 1) := by
    obtain ⟨m, hm⟩ : ∃ m, P.length = m + 2 := ⟨P.length - 2, by omega⟩
    rw [hm, budG.eq_3]; rfl
   have := ih.bud
   rw [List.length_append]
   omega
end
end Go.AM
end

/-
  Plain facts on the search for the state; no program in sight.
-/
import Derived.Test.YtkpoffjimfiabaaGreatP4
import Derived.Test.YtkpoffjimfiabaaGreatP3
import Derived.Test.YtkpoffjimfiabaaGreatP2
import Derived.Test.YtkpoffjimfiabaaGreatP1
set_option linter.unusedVariables false
set_option linter.unusedSimpArgs false
set_option linter.unusedSectionVars false
set_option linter.unnecessarySimpa false

section
namespace Go.AM
open Go Go.Proofs
theorem cnt_const {f : Nat → Int} {n : Nat} {P : List Int} (hlt : P.Pairwise (· < ·)) (hst : ∀ p ∈ P, 0 ≤ p ∧ p < n) (hc : ∀ p ∈ P, ∀ q ∈ P, f p.toNat = f q.toNat) : cntF (keyE f) n + P.length ≤ n + 1 := by
 match P, hlt, hst, hc with
 | [], _, _, _ => have := cntF_le (keyE f) n; simp; omega
 | p0 :: P, hlt, hst, hc =>
  have hlt0 := List.pairwise_cons.1 hlt
  -- firsts and the rest of P are different states
  have hnf : ∀ p ∈ P, isF (keyE f) p.toNat = false := fun p hp => by
   cases h : isF (keyE f) p.toNat with
   | false => rfl
   | true =>
    have h1 := hlt0.1 p hp
    have h2 := hst p0 (by simp)
    exact absurd (hc p (by simp [hp]) p0 (by simp)) (isF_iff.1 h p0.toNat (by omega))
  have hall : ∀ x ∈ firsts (keyE f) n ++ P.map Int.toNat, x < n := fun x hx => by
   rcases List.mem_append.1 hx with hx | hx
   ·exact List.mem_range.1 (List.mem_filter.1 hx).1
   ·obtain ⟨p, hp, rfl⟩ := List.mem_map.1 hx
    have := hst p (by simp [hp])
    omega
  have hnd : (firsts (keyE f) n ++ P.map Int.toNat).Pairwise (· ≠ ·) := by
   refine List.pairwise_append.2 ⟨?_, ?_, ?_⟩
   ·exact (List.pairwise_lt_range.filter _).imp fun {a b} h => Nat.ne_of_lt h
   ·refine List.pairwise_map.2 (hlt0.2.imp_of_mem fun {a b} ha hb h => ?_)
    have := hst a (by simp [ha])
    omega
   ·intro a ha b hb e
    obtain ⟨p, hp, rfl⟩ := List.mem_map.1 hb
    have h1 := (List.mem_filter.1 ha).2
    rw [e, hnf p hp] at h1
    cases h1
  have hlen : (firsts (keyE f) n ++ P.map Int.toNat).length ≤ n := by
   refine pigeon n _ (fun m => (firsts (keyE f) n ++ P.map Int.toNat).getD m 0) (fun m hm => hall _ (by simp only [List.getD_eq_getElem?_getD, List.getElem?_eq_getElem hm, Option.getD_some]; exact List.getElem_mem _)) fun m m' hm hm' e => ?_
   simp only [List.getD_eq_getElem?_getD, List.getElem?_eq_getElem hm, List.getElem?_eq_getElem hm', Option.getD_some] at e
   rcases Nat.lt_trichotomy m m' with h | h | h
   ·exact absurd e (List.pairwise_iff_getElem.1 hnd m m' hm hm' h)
   ·exact h
   ·exact absurd e.symm (List.pairwise_iff_getElem.1 hnd m' m hm' hm h)
  rw [List.length_append, firsts_len, List.length_map] at hlen
  rw [List.length_cons]
  omega
section
variable {N O : List (List Int)} {k : Nat}
theorem moore_set (hN : CM N k) (hmin : cntT N O k = N.length) {P : List Int} (hlt : P.Pairwise (· < ·)) (hst : ∀ p ∈ P, 0 ≤ p ∧ p < (N.length : Int)) (h2 : 2 ≤ P.length) :
  ∃ p ∈ P, ∃ q ∈ P, p ≠ q ∧ ∃ w : List Int, w.length ≤ N.length - P.length + 1 ∧ (∀ c ∈ w, 0 ≤ c ∧ c < (k : Int)) ∧ outsG N O p w ≠ outsG N O q w := by
 have hPn : P.length ≤ N.length := by
  have := cnt_const (f := fun _ => 0) (n := N.length) hlt hst (fun _ _ _ _ => rfl)
  have h1 : 1 ≤ cntF (keyE fun _ => (0 : Int)) N.length := by
   have : isF (keyE fun _ => (0 : Int)) 0 = true := isF_iff.2 fun t h => by omega
   have := cntF_lt (E := keyE fun _ => (0 : Int)) (i := 0) (j := N.length) hN.n1 this
   omega
  omega
 generalize hl : N.length - P.length + 1 = l
 have hcnt : l + 1 ≤ cntI N O k l := by
  by_cases hg : ∀ j, j < l → cntI N O k (j + 1) ≠ cntI N O k j
  ·exact hN.grow l hg
  ·obtain ⟨j, hj, he⟩ : ∃ j, j < l ∧ cntI N O k (j + 1) = cntI N O k j := Classical.byContradiction fun h => hg fun j hj he => h ⟨j, hj, he⟩
   have hs := hN.stable he
   have h1 := clsI_from hs (l - j)
   have h3 := clsI_from hs (N.length - j)
   rw [show j + (l - j) = l by omega] at h1
   rw [show j + (N.length - j) = N.length by omega] at h3
   have h4 : cntI N O k l = cntT N O k := by unfold cntT cntI; rw [h1, h3]
   rw [h4, hmin]; omega
 by_cases hc : ∀ p ∈ P, ∀ q ∈ P, atC (clsI N O k l) p.toNat = atC (clsI N O k l) q.toNat
 ·have := cnt_const (f := atC (clsI N O k l)) (n := N.length) hlt hst hc
  unfold cntI at hcnt
  omega
 ·obtain ⟨p, hp, q, hq, hne⟩ : ∃ p, p ∈ P ∧ ∃ q, q ∈ P ∧ atC (clsI N O k l) p.toNat ≠ atC (clsI N O k l) q.toNat := Classical.byContradiction fun h => hc fun p hp q hq => Classical.byContradiction fun hne => h ⟨p, hp, q, hq, hne⟩
  have h1 := hst p hp
  have h2 := hst q hq
  obtain ⟨w, w1, w2, w3⟩ := hN.word l p.toNat q.toNat (by omega) (by omega) hne
  rw [show ((p.toNat : Nat) : Int) = p by omega, show ((q.toNat : Nat) : Int) = q by omega] at w3
  exact ⟨p, hp, q, hq, fun e => hne (by rw [e]), w, w1, w2, w3⟩
def IsBest (N O : List (List Int)) (k : Nat) (P : List Int) (w : List Int) : Prop :=
 (∀ c ∈ w, 0 ≤ c ∧ c < (k : Int)) ∧ (∃ p ∈ P, ∃ q ∈ P, outsG N O p w ≠ outsG N O q w) ∧ ∀ v : List Int, (∀ c ∈ v, 0 ≤ c ∧ c < (k : Int)) → (∃ p ∈ P, ∃ q ∈ P, outsG N O p v ≠ outsG N O q v) → leB w v
theorem leB_anti {a b : List Int} (h : leB a b) (h' : leB b a) : a = b := comesB_total h' h
theorem IsBest.uniq {P : List Int} {w w' : List Int} (h : IsBest N O k P w) (h' : IsBest N O k P w') : w = w' := leB_anti (h.2.2 w' h'.1 h'.2.1) (h'.2.2 w h.1 h.2.1)
def posL (N O : List (List Int)) (s : Int) (w P : List Int) : List Int := setL ((P.filter fun p => decide (outsG N O p w = outsG N O s w)).map fun p => leadG N p w)
theorem mem_posL {s : Int} {w P : List Int} {t : Int} : t ∈ posL N O s w P ↔ ∃ p ∈ P, outsG N O p w = outsG N O s w ∧ leadG N p w = t := by
 unfold posL
 rw [mem_setL]
 simp [and_assoc]
theorem setL_len (l : List Int) : (setL l).length ≤ l.length := by
 have hlt := setL_lt l
 have hmem : ∀ m (h : m < (setL l).length), (setL l)[m] ∈ l := fun m h => mem_setL.1 (List.getElem_mem h)
 refine pigeon l.length _ (fun m => l.idxOf ((setL l).getD m 0)) (fun m hm => ?_) fun m m' hm hm' e => ?_
 ·simp only [List.getD_eq_getElem?_getD, List.getElem?_eq_getElem hm, Option.getD_some]
  exact List.idxOf_lt_length_of_mem (hmem m hm)
 ·simp only [List.getD_eq_getElem?_getD, List.getElem?_eq_getElem hm, List.getElem?_eq_getElem hm', Option.getD_some] at e
  have h1 := List.getElem_idxOf (List.idxOf_lt_length_of_mem (hmem m hm))
  have h2 := List.getElem_idxOf (List.idxOf_lt_length_of_mem (hmem m' hm'))
  have h3 : (setL l)[m] = (setL l)[m'] := by rw [← h1, ← h2]; simp only [e]
  rcases Nat.lt_trichotomy m m' with h | h | h
  ·have := List.pairwise_iff_getElem.1 hlt m m' hm hm' h; omega
  ·exact h
  ·have := List.pairwise_iff_getElem.1 hlt m' m hm' hm h; omega
theorem filter_lt {α : Type} {p : α → Bool} : ∀ {l : List α}, (∃ x ∈ l, p x = false) → (l.filter p).length < l.length
 | [], h => by obtain ⟨x, hx, _⟩ := h; simp at hx
 | y :: l, h => by
  by_cases hy : p y = true
  ·obtain ⟨x, hx, hp⟩ := h
   rcases List.mem_cons.1 hx with rfl | hx
   ·rw [hy] at hp; cases hp
   ·have := filter_lt (l := l) ⟨x, hx, hp⟩
    rw [List.filter_cons_of_pos hy, List.length_cons, List.length_cons]
    omega
  ·have := List.length_filter_le p l
   rw [List.filter_cons_of_neg hy, List.length_cons]
   omega
theorem posL_lt {s : Int} {w P : List Int} (h : ∃ p ∈ P, ∃ q ∈ P, outsG N O p w ≠ outsG N O q w) : (posL N O s w P).length < P.length := by
 refine Nat.lt_of_le_of_lt (setL_len _) ?_
 rw [List.length_map]
 refine filter_lt ?_
 obtain ⟨p, hp, q, hq, hne⟩ := h
 by_cases e : outsG N O p w = outsG N O s w
 ·exact ⟨q, hq, by simpa using fun e2 => hne (e.trans e2.symm)⟩
 ·exact ⟨p, hp, by simpa using e⟩
inductive Chn (N O : List (List Int)) (k : Nat) (s0 : Int) : Nat → List Int → Int → List Int → Prop
 | nil : Chn N O k s0 0 [] s0 (allS N.length)
 | step {j v s P w} (h : Chn N O k s0 j v s P) (h2 : 2 ≤ P.length) (hb : IsBest N O k P w) : Chn N O k s0 (j + 1) (v ++ w) (leadG N s w) (posL N O s w P)
theorem Chn.det {s0 : Int} {j : Nat} {v v' : List Int} {s s' : Int} {P P' : List Int} (h : Chn N O k s0 j v s P) (h' : Chn N O k s0 j v' s' P') : v = v' ∧ s = s' ∧ P = P' := by
 induction h generalizing v' s' P' with
 | nil => cases h'; exact ⟨rfl, rfl, rfl⟩
 | step h h2 hb ih =>
  cases h' with
  | step g g2 gb =>
   obtain ⟨rfl, rfl, rfl⟩ := ih g
   obtain rfl := hb.uniq gb
   exact ⟨rfl, rfl, rfl⟩
theorem Chn.early {s0 : Int} {i : Nat} : ∀ {j : Nat} {v : List Int} {s : Int} {P : List Int}, Chn N O k s0 j v s P → i < j → ∃ v' s' P', Chn N O k s0 i v' s' P' ∧ 2 ≤ P'.length := by
 intro j v s P h
 induction h with
 | nil => intro h; omega
 | @step j v s P w h h2 hb ih =>
  intro hi
  by_cases e : i = j
  ·subst e; exact ⟨_, _, _, h, h2⟩
  ·exact ih (by omega)
theorem Chn.uniq {s0 : Int} {j j' : Nat} {v v' : List Int} {s s' : Int} {P P' : List Int} (h : Chn N O k s0 j v s P) (h' : Chn N O k s0 j' v' s' P') (h1 : P.length ≤ 1) (h1' : P'.length ≤ 1) : v = v' ∧ s = s' ∧ P = P' := by
 rcases Nat.lt_trichotomy j j' with hj | hj | hj
 ·obtain ⟨a, b, c, g, g2⟩ := h'.early hj
  obtain ⟨_, _, rfl⟩ := h.det g
  omega
 ·subst hj; exact h.det h'
 ·obtain ⟨a, b, c, g, g2⟩ := h.early hj
  obtain ⟨_, _, rfl⟩ := h'.det g
  omega
def budG (n : Nat) : Nat → Nat
 | 0 => 0
 | 1 => 0
 | m + 2 => budG n (m + 1) + (n - (m + 2) + 1)
theorem budG_mono {n : Nat} {a b : Nat} (h : a ≤ b) : budG n a ≤ budG n b := by
 induction b with
 | zero =>
  obtain rfl : a = 0 := by omega
  exact Nat.le_refl _
 | succ b ih =>
  by_cases e : a = b + 1
  ·rw [e]; exact Nat.le_refl _
  ·have h1 := ih (by omega)
   have h2 : budG n b ≤ budG n (b + 1) := by
    cases b with
    | zero => exact Nat.zero_le _
    | succ b => rw [budG.eq_3]; omega
   omega
theorem budG_val {n : Nat} : ∀ m, m + 1 ≤ n → 2 * budG n (m + 1) = m * (2 * n - (m + 1))
 | 0, _ => by simp [budG]
 | m + 1, h => by
  have ih := budG_val (n := n) m (by omega)
  rw [budG.eq_3, Nat.mul_add, ih]
  obtain ⟨d, rfl⟩ : ∃ d, n = d + (m + 2) := ⟨n - (m + 2), by omega⟩
  rw [show d + (m + 2) - (m + 2) = d by omega, show 2 * (d + (m + 2)) - (m + 1) = 2 * d + m + 3 by omega, show 2 * (d + (m + 2)) - (m + 1 + 1) = 2 * d + m + 2 by omega]
  simp only [Nat.add_mul, Nat.mul_add, Nat.one_mul, Nat.mul_one]
  omega
theorem budG_all {n : Nat} : 2 * budG n n ≤ n * (n - 1) := by
 cases n with
 | zero => simp [budG]
 | succ m =>
  rw [budG_val m (Nat.le_refl _), show 2 * (m + 1) - (m + 1) = m + 1 by omega, show m + 1 - 1 = m by omega, Nat.mul_comm]
  exact Nat.le_refl _
structure SkOk (N O : List (List Int)) (k : Nat) (s0 : Int) (v : List Int) (s : Int) (P : List Int) : Prop where
 lt : P.Pairwise (· < ·)
 st : ∀ p ∈ P, 0 ≤ p ∧ p < (N.length : Int)
 at_ : s = leadG N s0 v
 mem : s ∈ P
 word : ∀ c ∈ v, 0 ≤ c ∧ c < (k : Int)
 all : ∀ y : Int, 0 ≤ y ∧ y < N.length → outsG N O y v = outsG N O s0 v → leadG N y v ∈ P
 bud : v.length + budG N.length P.length ≤ budG N.length N.length
theorem allS_len (n : Nat) : (allS n).length = n := by simp [allS]
theorem Chn.ok (hV : VM N O k) (hmin : cntT N O k = N.length) {s0 : Int} (h0 : 0 ≤ s0 ∧ s0 < N.length) {j : Nat} {v : List Int} {s : Int} {P : List Int} (h : Chn N O k s0 j v s P) : SkOk N O k s0 v s P := by
 induction h with
 | nil =>
  exact ⟨allS_lt _, fun p hp => mem_allS.1 hp, rfl, mem_allS.2 h0, fun c h => by simp at h, fun y hy _ => mem_allS.2 hy, by simp [allS_len]⟩
 | @step j v s P w h h2 hb ih =>
  have hs := ih.st s ih.mem
  have hlw : ∀ y : Int, 0 ≤ y ∧ y < N.length → 0 ≤ leadG N y w ∧ leadG N y w < N.length := fun y hy => hV.v.lead w hy.1 hy.2 hb.1
  refine ⟨setL_lt _, fun t ht => ?_, ?_, mem_posL.2 ⟨s, ih.mem, rfl, rfl⟩, fun c hc => ?_, fun y hy ho => ?_, ?_⟩
  ·obtain ⟨p, hp, _, rfl⟩ := mem_posL.1 ht
   exact hlw p (ih.st p hp)
  ·rw [leadG_append, ← ih.at_]
  ·rcases List.mem_append.1 hc with hc | hc
   ·exact ih.word c hc
   ·exact hb.1 c hc
  ·rw [outsG_append, outsG_append] at ho
   have hlen : (outsG N O y v).length = (outsG N O s0 v).length := by rw [outsG_len, outsG_len]
   obtain ⟨e1, e2⟩ := List.append_inj ho hlen
   rw [leadG_append]
   exact mem_posL.2 ⟨leadG N y v, ih.all y hy e1, by rw [e2, ih.at_], rfl⟩
  ·obtain ⟨p, hp, q, hq, _, u, u1, u2, u3⟩ := moore_set hV.cm hmin ih.lt ih.st h2
   have h3 := leB_len (hb.2.2 u u2 ⟨p, hp, q, hq, u3⟩)
   have h4 := posL_lt (N := N) (O := O) (s := s) hb.2.1
   have h5 := budG_mono (n := N.length) (show (posL N O s w P).length ≤ P.length - 1 by omega)
   have h6 : budG N.length P.length = budG N.length (P.length - 1) + (N.length - P.length + 1) := by
    obtain ⟨m, hm⟩ : ∃ m, P.length = m + 2 := ⟨P.length - 2, by omega⟩
    rw [hm, budG.eq_3]; rfl
   have := ih.bud
   rw [List.length_append]
   omega
end
end Go.AM
end

section
namespace Go.AM
open Go Go.Proofs
def ahdP (P : List Int) (i j i' j' : Nat) : Prop := j' < i' ∧ i' < P.length ∧ (i' < i ∨ (i' = i ∧ j' < j))
section
variable {N O : List (List Int)} {k : Nat} {P w u : List Int} {i j : Nat}
structure BR (N O : List (List Int)) (k : Nat) (P : List Int) (i j : Nat) (w : List Int) : Prop where
 all : ∀ i' j', ahdP P i j i' j' → ∀ v : List Int, (∀ c ∈ v, 0 ≤ c ∧ c < (k : Int)) → outsG N O (P.getD i' 0) v ≠ outsG N O (P.getD j' 0) v → leB w v
 one : (w = [] ∧ ∀ i' j', ¬ ahdP P i j i' j') ∨ ((∀ c ∈ w, 0 ≤ c ∧ c < (k : Int)) ∧ ∃ i' j', ahdP P i j i' j' ∧ outsG N O (P.getD i' 0) w ≠ outsG N O (P.getD j' 0) w)
theorem BR.zero : BR N O k P 0 0 [] := ⟨fun i' j' h => by unfold ahdP at h; omega, .inl ⟨rfl, fun i' j' h => by unfold ahdP at h; omega⟩⟩
theorem ahdP_row {i' j' : Nat} : ahdP P (i + 1) 0 i' j' ↔ ahdP P i i i' j' := by
 unfold ahdP
 constructor
 ·rintro ⟨h1, h2, h3⟩; exact ⟨h1, h2, by omega⟩
 ·rintro ⟨h1, h2, h3⟩; exact ⟨h1, h2, by omega⟩
theorem ahdP_succ {i' j' : Nat} (hj : j < i) (hi : i < P.length) : ahdP P i (j + 1) i' j' ↔ ahdP P i j i' j' ∨ (i' = i ∧ j' = j) := by
 unfold ahdP
 constructor
 ·rintro ⟨h1, h2, h3⟩
  by_cases e : i' = i ∧ j' = j
  ·exact .inr e
  ·exact .inl ⟨h1, h2, by omega⟩
 ·rintro (⟨h1, h2, h3⟩ | ⟨rfl, rfl⟩)
  ·exact ⟨h1, h2, by omega⟩
  ·exact ⟨hj, hi, by omega⟩
theorem BR.row (h : BR N O k P i i w) : BR N O k P (i + 1) 0 w := by
 refine ⟨fun i' j' ha => h.all i' j' (ahdP_row.1 ha), ?_⟩
 rcases h.one with ⟨h1, h2⟩ | ⟨h0, i', j', h1, h2⟩
 ·exact .inl ⟨h1, fun i' j' ha => h2 i' j' (ahdP_row.1 ha)⟩
 ·exact .inr ⟨h0, i', j', ahdP_row.2 h1, h2⟩
def takB (u w : List Int) : Prop := w.length = 0 ∨ u.length < w.length ∨ (u.length = w.length ∧ befB u w = true)
theorem takB_iff : takB u w ↔ w = [] ∨ comesB u w = true := by
 unfold takB comesB
 constructor
 ·rintro (h | h | ⟨h1, h2⟩)
  ·exact .inl (List.length_eq_zero_iff.1 h)
  ·right
   rw [if_neg (by omega)]; simpa using h
  ·right
   rw [if_pos h1, ← befB_lex h1]; exact h2
 ·rintro (h | h)
  ·exact .inl (by rw [h]; rfl)
  ·by_cases e : u.length = w.length
   ·rw [if_pos e, ← befB_lex e] at h; exact .inr (.inr ⟨e, h⟩)
   ·rw [if_neg e] at h; exact .inr (.inl (by simpa using h))
theorem BR.pick (h : BR N O k P i j w) (hj : j < i) (hi : i < P.length) (hu : ∀ c ∈ u, 0 ≤ c ∧ c < (k : Int)) (ho : outsG N O (P.getD i 0) u ≠ outsG N O (P.getD j 0) u)
  (hf : ∀ v : List Int, (∀ c ∈ v, 0 ≤ c ∧ c < (k : Int)) → outsG N O (P.getD i 0) v ≠ outsG N O (P.getD j 0) v → leB u v) : (takB u w → BR N O k P i (j + 1) u) ∧ (¬ takB u w → BR N O k P i (j + 1) w) := by
 constructor
 ·intro ht
  refine ⟨fun i' j' ha v hv hne => ?_, .inr ⟨hu, i, j, (ahdP_succ hj hi).2 (.inr ⟨rfl, rfl⟩), ho⟩⟩
  rcases (ahdP_succ hj hi).1 ha with ha | ⟨rfl, rfl⟩
  ·rcases takB_iff.1 ht with e | e
   ·rcases h.one with ⟨_, h2⟩ | ⟨_, i2, j2, _, h2⟩
    ·exact absurd ha (h2 i' j')
    ·rw [e] at h2; exact absurd rfl h2
   ·exact leB_trans (leB_of e) (h.all i' j' ha v hv hne)
  ·exact hf v hv hne
 ·intro ht
  have h1 : w ≠ [] := fun e => ht (takB_iff.2 (.inl e))
  have h2 : leB w u := by
   unfold leB
   cases e : comesB u w with
   | false => rfl
   | true => exact absurd (takB_iff.2 (.inr e)) ht
  refine ⟨fun i' j' ha v hv hne => ?_, ?_⟩
  ·rcases (ahdP_succ hj hi).1 ha with ha | ⟨rfl, rfl⟩
   ·exact h.all i' j' ha v hv hne
   ·exact leB_trans h2 (hf v hv hne)
  ·rcases h.one with ⟨h3, _⟩ | ⟨h0, i', j', h3, h4⟩
   ·exact absurd h3 h1
   ·exact .inr ⟨h0, i', j', (ahdP_succ hj hi).2 (.inl h3), h4⟩
theorem getDP_mem {P : List Int} {i : Nat} (h : i < P.length) : P.getD i 0 ∈ P := by simp [List.getD, h]
theorem BR.best (h : BR N O k P P.length 0 w) (h2 : 2 ≤ P.length) : IsBest N O k P w := by
 rcases h.one with ⟨_, hno⟩ | ⟨h0, i, j, hah, hw⟩
 ·exact absurd ⟨by omega, by omega, by omega⟩ (hno 1 0)
 refine ⟨h0, ⟨_, getDP_mem hah.2.1, _, getDP_mem (show j < P.length by have := hah.1; have := hah.2.1; omega), hw⟩, fun v hv hpq => ?_⟩
 obtain ⟨p, hp, q, hq, hne⟩ := hpq
 obtain ⟨a, ha, rfl⟩ := List.getElem_of_mem hp
 obtain ⟨b, hb, rfl⟩ := List.getElem_of_mem hq
 have ea : P.getD a 0 = P[a] := by simp [List.getD, ha]
 have eb : P.getD b 0 = P[b] := by simp [List.getD, hb]
 rcases Nat.lt_trichotomy a b with hab | hab | hab
 ·exact h.all b a ⟨hab, hb, .inl hb⟩ v hv (by rw [ea, eb]; exact hne.symm)
 ·subst hab; exact absurd rfl hne
 ·exact h.all a b ⟨hab, ha, .inl ha⟩ v hv (by rw [ea, eb]; exact hne)
def mkI (N O : List (List Int)) (s : Int) (w P : List Int) : Nat → List Bool
 | 0 => List.replicate N.length false
 | i + 1 => if outsG N O (P.getD i 0) w = outsG N O s w then (mkI N O s w P i).set (leadG N (P.getD i 0) w).toNat true else mkI N O s w P i
theorem mkI_len {s : Int} : ∀ i, (mkI N O s w P i).length = N.length
 | 0 => by simp [mkI]
 | i + 1 => by
  unfold mkI
  split
  ·simp [mkI_len i]
  ·exact mkI_len i
theorem mkI_get {s : Int} {t : Nat} (ht : t < N.length) : ∀ i, (mkI N O s w P i).getD t false = true ↔ ∃ j, j < i ∧ outsG N O (P.getD j 0) w = outsG N O s w ∧ (leadG N (P.getD j 0) w).toNat = t
 | 0 => by
  simp only [mkI]
  constructor
  ·intro h
   rw [List.getD_eq_getElem?_getD, List.getElem?_replicate] at h
   split at h <;> cases h
  ·rintro ⟨j, h, _⟩; omega
 | i + 1 => by
  have ih := mkI_get (s := s) ht i
  have hl := mkI_len (N := N) (O := O) (w := w) (P := P) (s := s) i
  unfold mkI
  split
  ·rename_i ho
   by_cases e : (leadG N (P.getD i 0) w).toNat = t
   ·rw [e, List.getD_eq_getElem?_getD, List.getElem?_set_self (by rw [hl]; exact ht)]
    exact ⟨fun _ => ⟨i, by omega, ho, e⟩, fun _ => rfl⟩
   ·rw [List.getD_eq_getElem?_getD, List.getElem?_set_ne e, ← List.getD_eq_getElem?_getD, ih]
    constructor
    ·rintro ⟨j, h1, h2⟩; exact ⟨j, by omega, h2⟩
    ·rintro ⟨j, h1, h2, h3⟩
     refine ⟨j, ?_, h2, h3⟩
     have : j ≠ i := fun g => by subst g; exact e h3
     omega
  ·rename_i ho
   rw [ih]
   constructor
   ·rintro ⟨j, h1, h2⟩; exact ⟨j, by omega, h2⟩
   ·rintro ⟨j, h1, h2, h3⟩
    refine ⟨j, ?_, h2, h3⟩
    have : j ≠ i := fun g => by subst g; exact ho h2
    omega
def lfI (A : List Bool) : Nat → List Int
 | 0 => []
 | t + 1 => if A.getD t false = true then lfI A t ++ [(t : Int)] else lfI A t
theorem mem_lfI {A : List Bool} {x : Int} : ∀ t, x ∈ lfI A t ↔ ∃ s : Nat, s < t ∧ A.getD s false = true ∧ x = (s : Int)
 | 0 => by simp [lfI]
 | t + 1 => by
  have ih := mem_lfI (A := A) (x := x) t
  unfold lfI
  split
  ·rename_i h
   rw [List.mem_append, ih, List.mem_singleton]
   constructor
   ·rintro (⟨s, h1, h2⟩ | h1)
    ·exact ⟨s, by omega, h2⟩
    ·exact ⟨t, by omega, h, h1⟩
   ·rintro ⟨s, h1, h2, h3⟩
    by_cases e : s = t
    ·subst e; exact .inr h3
    ·exact .inl ⟨s, by omega, h2, h3⟩
  ·rename_i h
   rw [ih]
   constructor
   ·rintro ⟨s, h1, h2⟩; exact ⟨s, by omega, h2⟩
   ·rintro ⟨s, h1, h2, h3⟩
    have : s ≠ t := fun e => by subst e; exact h h2
    exact ⟨s, by omega, h2, h3⟩
theorem lfI_lt {A : List Bool} : ∀ t, (lfI A t).Pairwise (· < ·)
 | 0 => by simp [lfI]
 | t + 1 => by
  unfold lfI
  split
  ·refine List.pairwise_append.2 ⟨lfI_lt t, by simp, fun a ha b hb => ?_⟩
   obtain ⟨s, h1, _, rfl⟩ := (mem_lfI t).1 ha
   rw [List.mem_singleton.1 hb]; omega
  ·exact lfI_lt t
theorem lfI_len {A : List Bool} : ∀ t, (lfI A t).length ≤ t
 | 0 => by simp [lfI]
 | t + 1 => by
  have := lfI_len (A := A) t
  unfold lfI
  split
  ·simp; omega
  ·omega
theorem lfI_pos {s : Int} (hst : ∀ p ∈ P, 0 ≤ leadG N p w ∧ leadG N p w < (N.length : Int)) : lfI (mkI N O s w P P.length) N.length = posL N O s w P := by
 refine lt_list_ext (lfI_lt _) (setL_lt _) fun x => ?_
 rw [mem_posL, mem_lfI]
 constructor
 ·rintro ⟨t, h1, h2, rfl⟩
  obtain ⟨j, h3, h4, h5⟩ := (mkI_get h1 _).1 h2
  have := hst _ (getDP_mem h3)
  exact ⟨P.getD j 0, getDP_mem h3, h4, by omega⟩
 ·rintro ⟨p, hp, h1, rfl⟩
  obtain ⟨j, hj, rfl⟩ := List.getElem_of_mem hp
  have h2 := hst _ hp
  have e : P.getD j 0 = P[j] := by simp [List.getD, hj]
  exact ⟨(leadG N P[j] w).toNat, by omega, (mkI_get (by omega) _).2 ⟨j, hj, by rw [e]; exact h1, by rw [e]⟩, by omega⟩
end
end Go.AM
end

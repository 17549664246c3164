/-
  Plain facts on the table of pairs that tells whether a machine is minimal; no program in sight.
-/
import Derived.Test.YtdfocobojkmenaaP7
import Derived.Test.YtdfocobojkmenaaP3
set_option linter.unusedVariables false
set_option linter.unusedSimpArgs false
set_option linter.unusedSectionVars false
set_option linter.unnecessarySimpa false

/-! text PlMini -/
section
namespace Go.AM
open Go
def ntf (N : List (List Int)) (s x : Nat) : Nat := (nxG N s x).toNat
/-- a row of the table of pairs, up to the pair (p, q) -/
def mqA (N O : List (List Int)) (p x : Nat) (A : List Bool) : Nat → List Bool
  | 0 => A
  | q + 1 => if outG O p x ≠ outG O q x ∨ (mqA N O p x A q).getD (ntf N p x * N.length + ntf N q x) false = true then (mqA N O p x A q).set (p * N.length + q) true else mqA N O p x A q
def mxA (N O : List (List Int)) (p : Nat) (A : List Bool) : Nat → List Bool
  | 0 => A
  | x + 1 => mqA N O p x (mxA N O p A x) N.length
def mpA (N O : List (List Int)) (k : Nat) (A : List Bool) : Nat → List Bool
  | 0 => A
  | p + 1 => mxA N O p (mpA N O k A p) k
def mtA (N O : List (List Int)) (k : Nat) : Nat → List Bool
  | 0 => List.replicate (N.length * N.length) false
  | t + 1 => mpA N O k (mtA N O k t) N.length
def mxM (N : List (List Int)) (p : Nat) (M : List Bool) : Nat → List Bool
  | 0 => M
  | x + 1 => if (mxM N p M x).getD p false = true then (mxM N p M x).set (ntf N p x) true else mxM N p M x
def mpM (N : List (List Int)) (k : Nat) (M : List Bool) : Nat → List Bool
  | 0 => M
  | p + 1 => mxM N p (mpM N k M p) k
def mtM (N : List (List Int)) (k : Nat) : Nat → List Bool
  | 0 => (List.replicate N.length false).set 0 true
  | t + 1 => mpM N k (mtM N k t) N.length
variable {N O : List (List Int)} {k : Nat}
theorem mqA_len {p x : Nat} {A : List Bool} : ∀ q, (mqA N O p x A q).length = A.length
  | 0 => rfl
  | q + 1 => by unfold mqA; split <;> simp [mqA_len q]
theorem mxA_len {p : Nat} {A : List Bool} : ∀ x, (mxA N O p A x).length = A.length
  | 0 => rfl
  | x + 1 => by unfold mxA; rw [mqA_len, mxA_len x]
theorem mpA_len {A : List Bool} : ∀ p, (mpA N O k A p).length = A.length
  | 0 => rfl
  | p + 1 => by unfold mpA; rw [mxA_len, mpA_len p]
theorem mtA_len : ∀ t, (mtA N O k t).length = N.length * N.length
  | 0 => by simp [mtA]
  | t + 1 => by unfold mtA; rw [mpA_len, mtA_len t]
theorem mxM_len {p : Nat} {M : List Bool} : ∀ x, (mxM N p M x).length = M.length
  | 0 => rfl
  | x + 1 => by unfold mxM; split <;> simp [mxM_len x]
theorem mpM_len {M : List Bool} : ∀ p, (mpM N k M p).length = M.length
  | 0 => rfl
  | p + 1 => by unfold mpM; rw [mxM_len, mpM_len p]
theorem mtM_len : ∀ t, (mtM N k t).length = N.length
  | 0 => by simp [mtM]
  | t + 1 => by unfold mtM; rw [mpM_len, mtM_len t]
theorem set_keep {A : List Bool} {i j : Nat} (h : A.getD i false = true) : (A.set j true).getD i false = true := by
  rw [getD_set']
  have hi : i < A.length := by
    refine Classical.byContradiction fun g => ?_
    rw [List.getD_eq_getElem?_getD, List.getElem?_eq_none (by omega)] at h
    cases h
  split
  · simp [hi]
  · exact h
theorem rep_false {n i : Nat} : (List.replicate n false).getD i false = false := by
  rw [List.getD_eq_getElem?_getD, List.getElem?_replicate]
  split <;> rfl
theorem set_was {A : List Bool} {i j : Nat} (h : (A.set j true).getD i false = true) : j = i ∨ A.getD i false = true := by
  rw [getD_set'] at h
  by_cases e : j = i
  · exact .inl e
  · rw [if_neg e] at h; exact .inr h
theorem mqA_keep {p x : Nat} {A : List Bool} {i : Nat} (h : A.getD i false = true) : ∀ q, (mqA N O p x A q).getD i false = true
  | 0 => h
  | q + 1 => by
    unfold mqA; split
    · exact set_keep (mqA_keep h q)
    · exact mqA_keep h q
theorem mqA_keep2 {p x : Nat} {A : List Bool} {i q : Nat} (h : (mqA N O p x A q).getD i false = true) : ∀ d, (mqA N O p x A (q + d)).getD i false = true
  | 0 => h
  | d + 1 => by
    show (mqA N O p x A ((q + d) + 1)).getD i false = true
    unfold mqA; split
    · exact set_keep (mqA_keep2 h d)
    · exact mqA_keep2 h d
theorem mxA_keep {p : Nat} {A : List Bool} {i x : Nat} (h : (mxA N O p A x).getD i false = true) : ∀ d, (mxA N O p A (x + d)).getD i false = true
  | 0 => h
  | d + 1 => mqA_keep (mxA_keep h d) _
theorem mpA_keep {A : List Bool} {i p : Nat} (h : (mpA N O k A p).getD i false = true) : ∀ d, (mpA N O k A (p + d)).getD i false = true
  | 0 => h
  | d + 1 => by
    have := mxA_keep (N := N) (O := O) (p := p + d) (x := 0) (mpA_keep h d) k
    rw [Nat.zero_add] at this
    exact this
theorem mxM_keep {p : Nat} {M : List Bool} {i x : Nat} (h : (mxM N p M x).getD i false = true) : ∀ d, (mxM N p M (x + d)).getD i false = true
  | 0 => h
  | d + 1 => by
    show (mxM N p M ((x + d) + 1)).getD i false = true
    unfold mxM; split
    · exact set_keep (mxM_keep h d)
    · exact mxM_keep h d
theorem mpM_keep {M : List Bool} {i p : Nat} (h : (mpM N k M p).getD i false = true) : ∀ d, (mpM N k M (p + d)).getD i false = true
  | 0 => h
  | d + 1 => by
    have := mxM_keep (N := N) (p := p + d) (x := 0) (mpM_keep h d) k
    rw [Nat.zero_add] at this
    exact this
/-- the marks are true of pairs that a word tells apart -/
def TellsT (N O : List (List Int)) (k : Nat) (A : List Bool) : Prop := ∀ p q, p < N.length → q < N.length → A.getD (p * N.length + q) false = true → ∃ w : List Int, (∀ c ∈ w, 0 ≤ c ∧ c < k) ∧ outsG N O p w ≠ outsG N O q w
theorem ntf_lt (hV : VM N O k) {p x : Nat} (hp : p < N.length) (hx : x < k) : ntf N p x < N.length := nx_nat hV hp hx
theorem pair_ix {n p q p' q' : Nat} (hq : q < n) (hq' : q' < n) (h : p * n + q = p' * n + q') : p = p' ∧ q = q' := by
  have h1 : (p * n + q) / n = p := by rw [Nat.mul_comm, Nat.mul_add_div (by omega), Nat.div_eq_of_lt hq]; omega
  have h2 : (p' * n + q') / n = p' := by rw [Nat.mul_comm, Nat.mul_add_div (by omega), Nat.div_eq_of_lt hq']; omega
  have : p = p' := by rw [← h1, h, h2]
  subst this
  exact ⟨rfl, by omega⟩
theorem outs_cons {p x : Nat} (w : List Int) : outsG N O p ((x : Int) :: w) = outG O p x :: outsG N O (ntf N p x : Nat) w := by
  rw [ntf, outsG_st]; rfl
theorem mqA_tells (hV : VM N O k) {p x : Nat} (hp : p < N.length) (hx : x < k) {A : List Bool} (h : TellsT N O k A) : ∀ q, q ≤ N.length → TellsT N O k (mqA N O p x A q)
  | 0, _ => h
  | q + 1, hq => by
    have ih := mqA_tells hV hp hx h q (by omega)
    unfold mqA
    split
    · rename_i hc
      intro p1 q1 hp1 hq1 hm
      rcases set_was hm with e | e
      · obtain ⟨rfl, rfl⟩ := pair_ix (by omega) hq1 e
        rcases hc with hc | hc
        · refine ⟨[(x : Int)], fun c hc => by simp at hc; omega, fun g => hc ?_⟩
          rw [outs_cons, outs_cons] at g
          exact (List.cons.inj g).1
        · obtain ⟨w, w1, w2⟩ := ih _ _ (ntf_lt hV hp hx) (ntf_lt hV hq1 hx) hc
          refine ⟨(x : Int) :: w, fun c hc => ?_, fun g => w2 ?_⟩
          · rcases List.mem_cons.1 hc with rfl | hc
            · omega
            · exact w1 c hc
          · rw [outs_cons, outs_cons] at g
            exact (List.cons.inj g).2
      · exact ih p1 q1 hp1 hq1 e
    · exact ih
theorem mxA_tells (hV : VM N O k) {p : Nat} (hp : p < N.length) {A : List Bool} (h : TellsT N O k A) : ∀ x, x ≤ k → TellsT N O k (mxA N O p A x)
  | 0, _ => h
  | x + 1, hx => mqA_tells hV hp (by omega) (mxA_tells hV hp h x (by omega)) _ (Nat.le_refl _)
theorem mpA_tells (hV : VM N O k) {A : List Bool} (h : TellsT N O k A) : ∀ p, p ≤ N.length → TellsT N O k (mpA N O k A p)
  | 0, _ => h
  | p + 1, hp => mxA_tells hV (by omega) (mpA_tells hV h p (by omega)) _ (Nat.le_refl _)
theorem mtA_tells (hV : VM N O k) : ∀ t, TellsT N O k (mtA N O k t)
  | 0 => fun p q _ _ h => by rw [mtA, rep_false] at h; cases h
  | t + 1 => mpA_tells hV (mtA_tells hV t) _ (Nat.le_refl _)
/-- one round: what a letter tells, or a letter ahead of a marked pair -/
theorem round_A (hV : VM N O k) {A : List Bool} (hA : A.length = N.length * N.length) {p q x : Nat} (hp : p < N.length) (hq : q < N.length) (hx : x < k) (h : outG O p x ≠ outG O q x ∨ A.getD (ntf N p x * N.length + ntf N q x) false = true) : (mpA N O k A N.length).getD (p * N.length + q) false = true := by
  obtain ⟨d, hd⟩ : ∃ d, N.length = (p + 1) + d := ⟨N.length - (p + 1), by omega⟩
  conv => lhs; arg 1; arg 5; rw [hd]
  refine mpA_keep ?_ d
  show (mxA N O p (mpA N O k A p) k).getD _ _ = _
  obtain ⟨e, he⟩ : ∃ e, k = (x + 1) + e := ⟨k - (x + 1), by omega⟩
  conv => lhs; arg 1; arg 5; rw [he]
  refine mxA_keep ?_ e
  show (mqA N O p x (mxA N O p (mpA N O k A p) x) N.length).getD _ _ = _
  obtain ⟨f, hf⟩ : ∃ f, N.length = (q + 1) + f := ⟨N.length - (q + 1), by omega⟩
  conv => lhs; arg 1; arg 6; rw [hf]
  refine mqA_keep2 ?_ f
  have hc : outG O p x ≠ outG O q x ∨ (mqA N O p x (mxA N O p (mpA N O k A p) x) q).getD (ntf N p x * N.length + ntf N q x) false = true := h.imp id fun h => by
    refine mqA_keep ?_ q
    have := mxA_keep (N := N) (O := O) (p := p) (A := mpA N O k A p) (x := 0) (i := ntf N p x * N.length + ntf N q x) (by
      have := mpA_keep (N := N) (O := O) (k := k) (A := A) (p := 0) h p
      rw [Nat.zero_add] at this
      exact this) x
    rw [Nat.zero_add] at this
    exact this
  show (if _ then _ else _ : List Bool).getD _ _ = _
  rw [if_pos hc, getD_set', if_pos rfl, if_pos]
  rw [mqA_len, mxA_len, mpA_len, hA]
  have : (p + 1) * N.length ≤ N.length * N.length := Nat.mul_le_mul_right _ hp
  rw [Nat.add_mul] at this
  omega
/-- after t rounds every pair that a word of at most t letters tells apart is marked -/
theorem mtA_full (hV : VM N O k) : ∀ (t : Nat) (w : List Int) (p q : Nat), p < N.length → q < N.length → w.length ≤ t → (∀ c ∈ w, 0 ≤ c ∧ c < k) → outsG N O p w ≠ outsG N O q w → (mtA N O k t).getD (p * N.length + q) false = true
  | t, [], _, _, _, _, _, _, h => absurd rfl h
  | 0, _ :: _, _, _, _, _, hl, _, _ => by simp at hl
  | t + 1, c :: w, p, q, hp, hq, hl, hw, h => by
    obtain ⟨x, rfl⟩ : ∃ x : Nat, c = x := ⟨c.toNat, by have := hw c (by simp); omega⟩
    have hx : x < k := by have := hw x (by simp); omega
    refine round_A hV (mtA_len t) hp hq hx ?_
    by_cases e : outG O p x = outG O q x
    · refine .inr (mtA_full hV t w _ _ (ntf_lt hV hp hx) (ntf_lt hV hq hx) (by simpa using hl) (fun c hc => hw c (by simp [hc])) fun g => h ?_)
      rw [outs_cons, outs_cons, e, g]
    · exact .inl e
/-- the states that are met are reached -/
def MetsT (N : List (List Int)) (k : Nat) (M : List Bool) : Prop := ∀ p, p < N.length → M.getD p false = true → ∃ w : List Int, (∀ c ∈ w, 0 ≤ c ∧ c < k) ∧ leadG N 0 w = p
theorem mxM_mets (hV : VM N O k) {p : Nat} (hp : p < N.length) {M : List Bool} (h : MetsT N k M) : ∀ x, x ≤ k → MetsT N k (mxM N p M x)
  | 0, _ => h
  | x + 1, hx => by
    have ih := mxM_mets hV hp h x (by omega)
    unfold mxM
    split
    · rename_i hc
      intro p1 hp1 hm
      rcases set_was hm with e | e
      · obtain ⟨w, w1, w2⟩ := ih p hp hc
        refine ⟨w ++ [(x : Int)], fun c hc => ?_, ?_⟩
        · rcases List.mem_append.1 hc with hc | hc
          · exact w1 c hc
          · simp at hc; omega
        · have h5 := hV.nx (s := (p : Int)) (c := x) (by omega) (by omega) (by omega)
          rw [leadG_append, w2, ← e]
          show nxG N p x = _
          rw [ntf]; omega
      · exact ih p1 hp1 e
    · exact ih
theorem mpM_mets (hV : VM N O k) {M : List Bool} (h : MetsT N k M) : ∀ p, p ≤ N.length → MetsT N k (mpM N k M p)
  | 0, _ => h
  | p + 1, hp => mxM_mets hV (by omega) (mpM_mets hV h p (by omega)) _ (Nat.le_refl _)
theorem mtM_mets (hV : VM N O k) : ∀ t, MetsT N k (mtM N k t)
  | 0 => fun p _ h => by
    rcases set_was h with e | e
    · exact ⟨[], by simp, by subst e; rfl⟩
    · rw [rep_false] at e; cases e
  | t + 1 => mpM_mets hV (mtM_mets hV t) _ (Nat.le_refl _)
theorem round_M (hV : VM N O k) {M : List Bool} (hM : M.length = N.length) {p x : Nat} (hp : p < N.length) (hx : x < k) (h : M.getD p false = true) : (mpM N k M N.length).getD (ntf N p x) false = true := by
  obtain ⟨d, hd⟩ : ∃ d, N.length = (p + 1) + d := ⟨N.length - (p + 1), by omega⟩
  conv => lhs; arg 1; arg 4; rw [hd]
  refine mpM_keep ?_ d
  show (mxM N p (mpM N k M p) k).getD _ _ = _
  obtain ⟨e, he⟩ : ∃ e, k = (x + 1) + e := ⟨k - (x + 1), by omega⟩
  conv => lhs; arg 1; arg 4; rw [he]
  refine mxM_keep ?_ e
  have hc : (mxM N p (mpM N k M p) x).getD p false = true := by
    have := mxM_keep (N := N) (p := p) (M := mpM N k M p) (x := 0) (i := p) (by
      have := mpM_keep (N := N) (k := k) (M := M) (p := 0) h p
      rw [Nat.zero_add] at this
      exact this) x
    rw [Nat.zero_add] at this
    exact this
  show (if _ then _ else _ : List Bool).getD _ _ = _
  rw [if_pos hc, getD_set', if_pos rfl, if_pos]
  rw [mxM_len, mpM_len, hM]
  exact ntf_lt hV hp hx
theorem round_M2 {M : List Bool} {p : Nat} (h : M.getD p false = true) : (mpM N k M N.length).getD p false = true := by
  have := mpM_keep (N := N) (k := k) (M := M) (p := 0) h N.length
  rw [Nat.zero_add] at this
  exact this
theorem take_snoc' {w : List Int} {i : Nat} (h : i < w.length) : w.take (i + 1) = w.take i ++ [w.getD i 0] := by
  rw [List.take_add_one, List.getD_eq_getElem?_getD, List.getElem?_eq_getElem h]
  rfl
theorem mtM_full (hV : VM N O k) (w : List Int) (hw : ∀ c ∈ w, 0 ≤ c ∧ c < k) : ∀ t, (mtM N k t).getD (leadG N 0 (w.take t)).toNat false = true
  | 0 => by
    have := hV.v.n1
    simp only [mtM, List.take_zero, leadG]
    rw [getD_set', if_pos (by rfl), if_pos (by simp; omega)]
  | t + 1 => by
    have ih := mtM_full hV w hw t
    have hn1 := hV.v.n1
    by_cases e : t < w.length
    · have h1 := hV.v.lead (w.take t) (s := 0) (by omega) (by omega) fun c hc => hw c (List.mem_of_mem_take hc)
      have h2 := hw _ (getD_mem e)
      have := round_M hV (mtM_len t) (p := (leadG N 0 (w.take t)).toNat) (x := (w.getD t 0).toNat) (by omega) (by omega) ih
      rw [take_snoc' e, leadG_snoc]
      rw [ntf, nxG_st, nxG_nat] at this
      exact this
    · rw [List.take_of_length_le (by omega)] at ih ⊢
      exact round_M2 ih
theorem getD_mem0 {l : List Int} {i : Nat} {d : Int} (h : i < l.length) : l.getD i d ∈ l := by
  rw [List.getD_eq_getElem?_getD, List.getElem?_eq_getElem h]
  exact List.getElem_mem _
theorem dl_mem (hV : VM N O k) (w : List Int) (hw : ∀ c ∈ w, 0 ≤ c ∧ c < k) : leadG N 0 w ∈ (finN N k 0).1 := by
  obtain ⟨m, hm, e, _⟩ := (cov_done hV).first w hw
  rw [runW_dl N _ _ fun x hx => (hw x hx).1] at e
  rw [e]
  exact getD_mem0 hm
theorem dl_all (hV : VM N O k) (h : ∀ p, p < N.length → (p : Int) ∈ (finN N k 0).1) : (finN N k 0).1.length = N.length := by
  have hd := (cov_done hV).inv
  have hin := state_in hV ⟨Int.le_refl _, by have := hV.v.n1; omega⟩ hd
  refine Nat.le_antisymm ?_ ?_
  · refine pigeon N.length _ (fun m => ((finN N k 0).1.getD m 0).toNat) (fun m hm => ?_) (fun m m' hm hm' e => ?_)
    · have := hin m hm; show ((finN N k 0).1.getD m 0).toNat < _; omega
    · have h1 := hin m hm
      have h2 := hin m' hm'
      have e : ((finN N k 0).1.getD m 0).toNat = ((finN N k 0).1.getD m' 0).toNat := e
      exact hd.nodup m m' hm hm' (by omega)
  · refine pigeon _ N.length (fun p => (finN N k 0).1.idxOf (p : Int)) (fun p hp => List.idxOf_lt_length_iff.2 (h p hp)) (fun p p' hp hp' e => ?_)
    have e : (finN N k 0).1.idxOf (p : Int) = (finN N k 0).1.idxOf (p' : Int) := e
    have h1 := List.getElem_idxOf (List.idxOf_lt_length_iff.2 (h p hp))
    have h2 := List.getElem_idxOf (List.idxOf_lt_length_iff.2 (h p' hp'))
    simp only [e] at h1
    rw [h1] at h2
    omega
theorem fit_iff (hV : VM N O k) {t : Nat} (ht : N.length ≤ t) : (allC N k && decide (cntT N O k = N.length)) = true ↔ (∀ p, p < N.length → (mtM N k t).getD p false = true) ∧ ∀ p q, p < N.length → q < p → (mtA N O k t).getD (p * N.length + q) false = true := by
  have hn1 := hV.v.n1
  rw [Bool.and_eq_true, decide_eq_true_eq]
  constructor
  · rintro ⟨h1, h2⟩
    refine ⟨fun p hp => ?_, fun p q hp hq => ?_⟩
    · obtain ⟨g1, g2⟩ := cov_spec hV h1 (t := (p : Int)) ⟨by omega, by omega⟩
      have h3 : ((covL N k).getD (p : Int).toNat []).length ≤ N.length := by
        have hin : (covL N k).getD (p : Int).toNat [] ∈ covL N k := by
          rw [Int.toNat_natCast]
          exact getD_mem' (by rw [cov_len]; omega)
        refine Nat.le_trans (cvO_short hV (finN_inv hV ⟨Int.le_refl _, by omega⟩) hin) ?_
        have := of_decide_eq_true h1
        omega
      have := mtM_full hV _ g2 t
      rw [List.take_of_length_le (by omega), g1, Int.toNat_natCast] at this
      exact this
    · have hne : atC (clsT N O k) p ≠ atC (clsT N O k) q := fun e => by
        have := fit_dist h2 hp (by omega) e
        omega
      obtain ⟨w, w1, w2, w3⟩ := hV.cm.word _ _ _ hp (show q < N.length by omega) hne
      exact mtA_full hV t w p q hp (by omega) (by omega) w2 w3
  · rintro ⟨h1, h2⟩
    constructor
    · have hD := cov_done hV
      refine decide_eq_true ?_
      have hsub : ∀ p, p < N.length → (p : Int) ∈ (finN N k 0).1 := fun p hp => by
        obtain ⟨w, w1, w2⟩ := mtM_mets hV t p hp (h1 p hp)
        have := dl_mem hV w w1
        rw [w2] at this
        exact this
      exact dl_all hV hsub
    · refine cntF_all fun s hs => isF_iff.2 fun u hu e => ?_
      obtain ⟨w, w1, w2⟩ := mtA_tells hV t s u hs (by omega) (h2 s u hs hu)
      exact w2 ((hV.cm.iff hs (by omega)).1 e w w1)
end Go.AM
end

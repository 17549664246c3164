/-
  Plain facts on the shortest word that tells states apart, Moore's bound and the minimal machine; no program in sight.
-/
import Derived.Test.YthgglfpklgjibaaDoorP2
set_option linter.unusedVariables false
set_option linter.unusedSimpArgs false
set_option linter.unusedSectionVars false

/-! text PlShort -/
section
namespace Go.AM
open Go
/-! what the shortest word is, and how long -/
theorem nxG_nat (N : List (List Int)) (s x : Int) : nxG N s ((x.toNat : Nat) : Int) = nxG N s x := by simp only [nxG, Int.toNat_natCast]
theorem outG_nat (O : List (List Int)) (s x : Int) : outG O s ((x.toNat : Nat) : Int) = outG O s x := by simp only [outG, Int.toNat_natCast]
theorem nxG_st (N : List (List Int)) (s x : Int) : nxG N ((s.toNat : Nat) : Int) x = nxG N s x := by simp only [nxG, Int.toNat_natCast]
theorem outG_st (O : List (List Int)) (s x : Int) : outG O ((s.toNat : Nat) : Int) x = outG O s x := by simp only [outG, Int.toNat_natCast]
theorem outsG_st (N O : List (List Int)) (s : Int) (w : List Int) : outsG N O ((s.toNat : Nat) : Int) w = outsG N O s w := by
  cases w with
  | nil => rfl
  | cons x w => simp only [outsG, nxG_st, outG_st]
theorem runW_lead (N M : List (List Int)) : ∀ (w : List Int) (p : Int × Int), runW (dltP N M) p w = (leadG N p.1 w, leadG M p.2 w)
  | [], _ => rfl
  | x :: w, p => by
    show runW (dltP N M) (dltP N M p x.toNat) w = _
    rw [runW_lead N M w]
    simp only [dltP, nxG_nat]; rfl
theorem outsG_snoc (N O : List (List Int)) (s : Int) (w : List Int) (x : Int) : outsG N O s (w ++ [x]) = outsG N O s w ++ [outG O (leadG N s w) x] := by rw [outsG_append]; rfl
/-- outputs that differ differ at a first letter -/
theorem first_dif {N O M Q : List (List Int)} {x y : Int} : ∀ (n : Nat) (v : List Int), v.length = n → outsG N O x v ≠ outsG M Q y v → ∃ u d t, v = u ++ d :: t ∧ outG O (leadG N x u) d ≠ outG Q (leadG M y u) d := by
  intro n
  induction n with
  | zero => intro v hv h; rw [List.length_eq_zero_iff.1 hv] at h; exact absurd rfl h
  | succ n ih =>
    intro v hv h
    obtain ⟨u, d, rfl⟩ : ∃ u d, v = u ++ [d] := ⟨v.dropLast, v.getLast (fun e => by simp [e] at hv), (List.dropLast_concat_getLast _).symm⟩
    rw [outsG_snoc, outsG_snoc] at h
    by_cases e : outsG N O x u = outsG M Q y u
    · exact ⟨u, d, [], rfl, fun e2 => h (by rw [e, e2])⟩
    · obtain ⟨u', d', t, e1, e2⟩ := ih u (by simpa using hv) e
      exact ⟨u', d', t ++ [d], by rw [e1]; simp, e2⟩
theorem leB_pre (u : List Int) (d : Int) (t : List Int) : leB (u ++ [d]) (u ++ d :: t) := by
  cases t with
  | nil => exact leB_refl _
  | cons a t => exact leB_of (by unfold comesB; rw [if_neg (by simp)]; simp)
/-- what Told answers is the first of all words that tell the states apart -/
theorem TellR.first {N O M Q : List (List Int)} {x y : Int} {k : Nat} {w : List Int} (hN : VM N O k) (hM : VM M Q k) (hx : 0 ≤ x ∧ x < N.length) (hy : 0 ≤ y ∧ y < M.length) (h : TellR N O M Q x y k w true) :
    (∀ c ∈ w, 0 ≤ c ∧ c < k) ∧ w ≠ [] ∧ outsG N O x w ≠ outsG M Q y w ∧ ∀ v : List Int, (∀ c ∈ v, 0 ≤ c ∧ c < k) → outsG N O x v ≠ outsG M Q y v → leB w v := by
  have hb : BInv (dltP N M) (x, y) k (N.length * M.length) 0 (finP N M x y k) := bfs_inv _
  have hd : Done (dltP N M) (x, y) k (finP N M x y k) := ⟨hb.done (pair_len hN hM hx hy hb)⟩
  rcases h with ⟨i, c, h1, h2, h3, h4, h5, rfl, _⟩ | ⟨_, _, h⟩
  case inr => cases h
  obtain ⟨r1, r2⟩ := hd.reach i h1
  rw [runW_lead] at r1
  refine ⟨fun z hz => ?_, by simp, ?_, ?_⟩
  · rcases List.mem_append.1 hz with hz | hz
    · exact r2 z hz
    · simp at hz; subst hz; omega
  · rw [outsG_snoc, outsG_snoc]
    intro e
    have := List.append_inj_right e (by rw [outsG_len, outsG_len])
    simp only [List.cons.injEq, and_true] at this
    unfold difP at h3
    rw [← r1] at h3
    exact h3 this
  · intro v hv he
    obtain ⟨u, d, t, rfl, h6⟩ := first_dif v.length v rfl he
    have hu : ∀ z ∈ u, 0 ≤ z ∧ z < k := fun z hz => hv z (by simp [hz])
    have hdk := hv d (by simp)
    obtain ⟨m, m1, m2, m3⟩ := hd.first u hu
    rw [runW_lead] at m2
    have hdif : difP O Q ((finP N M x y k).1.getD m (x, y)) d.toNat := by
      rw [← m2]; show outG O _ _ ≠ outG Q _ _
      rw [outG_nat, outG_nat]; exact h6
    have hmi : i ≤ m := by
      rcases Nat.lt_or_ge m i with g | g
      · exact absurd hdif (h5 m d.toNat g (by omega))
      · exact g
    refine leB_trans ?_ (leB_pre u d t)
    rcases leB_iff.1 m3 with e | e
    · rcases Nat.lt_or_ge i m with g | g
      · refine leB_of (comesB_snoc _ _ ?_)
        rw [← e]; exact hb.sorted i m g m1
      · obtain rfl : i = m := by omega
        rw [e]
        have hcd : ¬ d.toNat < c := fun g => h4 _ g hdif
        rcases Nat.lt_or_ge c d.toNat with g2 | g2
        · exact leB_of (comesB_last u (by omega))
        · rw [show (c : Int) = d by omega]; exact leB_refl _
    · refine leB_of (comesB_snoc _ _ ?_)
      rcases Nat.lt_or_ge i m with g | g
      · exact comesB_trans (hb.sorted i m g m1) e
      · obtain rfl : i = m := by omega
        exact e
theorem TellR.none {N O M Q : List (List Int)} {x y : Int} {k : Nat} {w : List Int} (hN : VM N O k) (hM : VM M Q k) (hx : 0 ≤ x ∧ x < N.length) (hy : 0 ≤ y ∧ y < M.length) (h : TellR N O M Q x y k w false) :
    ∀ v : List Int, (∀ c ∈ v, 0 ≤ c ∧ c < k) → outsG N O x v = outsG M Q y v := by
  have hb : BInv (dltP N M) (x, y) k (N.length * M.length) 0 (finP N M x y k) := bfs_inv _
  have hd : Done (dltP N M) (x, y) k (finP N M x y k) := ⟨hb.done (pair_len hN hM hx hy hb)⟩
  rcases h with ⟨_, _, _, _, _, _, _, _, h⟩ | ⟨h1, _, _⟩
  · cases h
  intro v hv
  by_cases he : outsG N O x v = outsG M Q y v
  · exact he
  obtain ⟨u, d, t, rfl, h6⟩ := first_dif v.length v rfl he
  obtain ⟨m, m1, m2, m3⟩ := hd.first u fun z hz => hv z (by simp [hz])
  rw [runW_lead] at m2
  have hdk := hv d (by simp)
  refine absurd ?_ (h1 m d.toNat m1 (by omega))
  rw [← m2]; show outG O _ _ ≠ outG Q _ _
  rw [outG_nat, outG_nat]; exact h6
/-! classes and words -/
/-- all that the classes need of a machine -/
structure CM (N : List (List Int)) (k : Nat) : Prop where
  n1 : 1 ≤ N.length
  nx : ∀ (s : Int) (x : Nat), 0 ≤ s → s < N.length → x < k → 0 ≤ nxG N s x ∧ nxG N s x < N.length
theorem VM.cm {N O : List (List Int)} {k : Nat} (h : VM N O k) : CM N k := ⟨h.v.n1, fun _ _ h1 h2 h3 => h.nx h1 h2 h3⟩
section
variable {N O : List (List Int)} {k : Nat}
theorem CM.nat (hN : CM N k) {s x : Nat} (hs : s < N.length) (hx : x < k) : (nxG N s x).toNat < N.length := by
  have := hN.nx (s : Int) x (by omega) (by omega) hx; omega
theorem CM.mono (hN : CM N k) : ∀ (i : Nat) {s t : Nat}, s < N.length → t < N.length → atC (clsI N O k (i + 1)) s = atC (clsI N O k (i + 1)) t → atC (clsI N O k i) s = atC (clsI N O k i) t
  | 0, s, t, hs, ht, _ => by simp [clsI, atC, List.getD, hs, ht]
  | i + 1, s, t, hs, ht, h => by
    rw [clsI_succ hs ht]
    rw [clsI_succ hs ht, kF_eq] at h
    rw [kF_eq]
    intro x hx
    obtain ⟨h1, h2⟩ := h x hx
    exact ⟨h1, CM.mono hN i (hN.nat hs hx) (hN.nat ht hx) h2⟩
theorem CM.stable (hN : CM N k) {i : Nat} (h : cntI N O k (i + 1) = cntI N O k i) : clsI N O k (i + 1) = clsI N O k i := by
  have := same_count (f := atC (clsI N O k (i + 1))) (g := atC (clsI N O k i)) (n := N.length) (fun s t hs ht => hN.mono i hs ht) h
  refine list_ext_at (clsI_len _) (clsI_len _) fun s hs => ?_
  rw [clsI_canon (i + 1) hs, clsI_canon i hs, Int.natCast_inj]
  exact numF_congr (n := N.length) (fun s t hs ht => by simp only [keyE, decide_eq_decide]; exact this s t hs ht) hs
theorem CM.grow (hN : CM N k) : ∀ i, (∀ j, j < i → cntI N O k (j + 1) ≠ cntI N O k j) → i + 1 ≤ cntI N O k i
  | 0, _ => by rw [cntI_zero hN.n1]; exact Nat.le_refl _
  | i + 1, h => by
    have h1 := CM.grow hN i fun j hj => h j (by omega)
    have h2 : cntI N O k i ≤ cntI N O k (i + 1) := count_le fun s t hs ht h => hN.mono i hs ht h
    have h3 := h i (by omega)
    omega
/-- where the classes stop -/
theorem CM.stop (hN : CM N k) : ∃ i, i + 1 ≤ cntT N O k ∧ clsI N O k i = clsT N O k ∧ clsI N O k (i + 1) = clsI N O k i := by
  have hex : ∃ j, cntI N O k (j + 1) = cntI N O k j := Classical.byContradiction fun h => by
    have := hN.grow (O := O) N.length fun j _ e => h ⟨j, e⟩
    have := cntI_le (N := N) (O := O) (k := k) N.length
    omega
  obtain ⟨i, h1, h2⟩ : ∃ i, cntI N O k (i + 1) = cntI N O k i ∧ ∀ j, j < i → cntI N O k (j + 1) ≠ cntI N O k j := by
    obtain ⟨j, hj⟩ := hex
    induction j using Nat.strongRecOn with
    | _ j ih =>
      by_cases g : ∃ m, m < j ∧ cntI N O k (m + 1) = cntI N O k m
      · obtain ⟨m, m1, m2⟩ := g; exact ih m m1 m2
      · exact ⟨j, hj, fun m hm e => g ⟨m, hm, e⟩⟩
  have h3 := hN.grow i h2
  have h4 := cntI_le (N := N) (O := O) (k := k) i
  have h5 := hN.stable h1
  have h6 := clsI_from h5 (N.length - i)
  rw [show i + (N.length - i) = N.length by omega] at h6
  refine ⟨i, ?_, h6.symm, h5⟩
  unfold cntT cntI; rw [h6]; exact h3
theorem CM.word (hN : CM N k) : ∀ (i s t : Nat), s < N.length → t < N.length → atC (clsI N O k i) s ≠ atC (clsI N O k i) t → ∃ w : List Int, w.length ≤ i ∧ (∀ c ∈ w, 0 ≤ c ∧ c < k) ∧ outsG N O s w ≠ outsG N O t w
  | 0, s, t, hs, ht, h => absurd (by simp [clsI, atC, List.getD, hs, ht]) h
  | i + 1, s, t, hs, ht, h => by
    rw [Ne, clsI_succ hs ht, kF_eq] at h
    obtain ⟨x, hx⟩ := Classical.not_forall.1 h
    obtain ⟨hx, h⟩ := Classical.not_imp.1 hx
    by_cases e : outG O s x = outG O t x
    · have h2 : atC (clsI N O k i) (nxG N s x).toNat ≠ atC (clsI N O k i) (nxG N t x).toNat := fun g => h ⟨e, g⟩
      obtain ⟨w, w1, w2, w3⟩ := CM.word hN i _ _ (hN.nat hs hx) (hN.nat ht hx) h2
      rw [outsG_st, outsG_st] at w3
      refine ⟨(x : Int) :: w, by simp; omega, fun c hc => ?_, fun g => ?_⟩
      · rcases List.mem_cons.1 hc with rfl | hc
        · omega
        · exact w2 c hc
      · simp only [outsG, List.cons.injEq] at g
        exact w3 g.2
    · exact ⟨[(x : Int)], by simp, fun c hc => by simp at hc; subst hc; omega, fun g => e (by simpa [outsG] using g)⟩
theorem CM.cls (hN : CM N k) : ∀ (w : List Int) (i s t : Nat), s < N.length → t < N.length → w.length ≤ i → (∀ c ∈ w, 0 ≤ c ∧ c < k) → atC (clsI N O k i) s = atC (clsI N O k i) t → outsG N O s w = outsG N O t w
  | [], _, _, _, _, _, _, _, _ => rfl
  | x :: w, 0, _, _, _, _, h, _, _ => by simp at h
  | x :: w, i + 1, s, t, hs, ht, hl, hw, h => by
    obtain ⟨h0, h1⟩ := hw x (by simp)
    rw [clsI_succ hs ht, kF_eq] at h
    obtain ⟨a, b⟩ := h x.toNat (by omega)
    rw [outG_nat, outG_nat] at a
    have hx : x.toNat < k := by omega
    have := CM.cls hN w i _ _ (hN.nat hs hx) (hN.nat ht hx) (by simpa using hl) (fun c hc => hw c (by simp [hc])) b
    rw [outsG_st, outsG_st, nxG_nat, nxG_nat] at this
    simp only [outsG, a, this]
/-- the classes part the states that a word tells apart -/
theorem CM.iff (hN : CM N k) {s t : Nat} (hs : s < N.length) (ht : t < N.length) : atC (clsT N O k) s = atC (clsT N O k) t ↔ ∀ w : List Int, (∀ c ∈ w, 0 ≤ c ∧ c < k) → outsG N O s w = outsG N O t w := by
  constructor
  · intro h w hw
    obtain ⟨i, h1, h2, h3⟩ := hN.stop (O := O)
    refine hN.cls w (i + w.length) s t hs ht (by omega) hw ?_
    rw [clsI_from h3 w.length, h2]; exact h
  · intro h
    refine Classical.byContradiction fun g => ?_
    obtain ⟨w, _, w2, w3⟩ := hN.word _ _ _ hs ht g
    exact w3 (h w w2)
/-- Moore: a short word does -/
theorem CM.moore (hN : CM N k) {s t : Nat} (hs : s < N.length) (ht : t < N.length) {w : List Int} (hw : ∀ c ∈ w, 0 ≤ c ∧ c < k) (h : outsG N O s w ≠ outsG N O t w) :
    ∃ v : List Int, v.length + 1 ≤ cntT N O k ∧ (∀ c ∈ v, 0 ≤ c ∧ c < k) ∧ outsG N O s v ≠ outsG N O t v := by
  obtain ⟨i, h1, h2, _⟩ := hN.stop (O := O)
  have : atC (clsI N O k i) s ≠ atC (clsI N O k i) t := fun g => by
    rw [h2] at g
    exact h ((hN.iff hs ht).1 g w hw)
  obtain ⟨v, v1, v2, v3⟩ := hN.word _ _ _ hs ht this
  exact ⟨v, by omega, v2, v3⟩
end
/-! two machines side by side -/
def sumN (N M : List (List Int)) : List (List Int) := N ++ M.map fun r => r.map (· + (N.length : Int))
section
variable {N O M Q : List (List Int)} {k : Nat}
theorem sumN_len : (sumN N M).length = N.length + M.length := by simp [sumN]
theorem sumN_l {s x : Int} (h0 : 0 ≤ s) (h : s < N.length) : nxG (sumN N M) s x = nxG N s x := by
  unfold nxG sumN
  rw [getD_append_left (by omega)]
theorem sumO_l {s x : Int} (h0 : 0 ≤ s) (h : s < O.length) : outG (O ++ Q) s x = outG O s x := by
  unfold outG
  rw [getD_append_left (by omega)]
theorem getD_append_right' {α : Type} {l l' : List α} {i : Nat} {d : α} : (l ++ l').getD (l.length + i) d = l'.getD i d := by
  rw [List.getD, List.getElem?_append_right (by omega), Nat.add_sub_cancel_left]; rfl
theorem sumN_r (hM : VM M Q k) {s x : Int} (h0 : 0 ≤ s) (h : s < M.length) (hx : 0 ≤ x ∧ x < k) : nxG (sumN N M) (s + N.length) x = nxG M s x + N.length := by
  unfold nxG sumN
  rw [show (s + (N.length : Int)).toNat = N.length + s.toNat by omega, getD_append_right']
  have hs : s.toNat < M.length := by omega
  have hr := (hM.v.row _ (getD_mem' hs)).1
  rw [show (M.map fun r => r.map (· + (N.length : Int))).getD s.toNat [] = (M.getD s.toNat []).map (· + (N.length : Int)) by simp [List.getD, hs]]
  have hx2 : x.toNat < (M.getD s.toNat []).length := by omega
  generalize M.getD s.toNat [] = r at hx2 ⊢
  simp [List.getD, hx2]
theorem sumO_r {s x : Int} (hO : O.length = N.length) (h0 : 0 ≤ s) : outG (O ++ Q) (s + N.length) x = outG Q s x := by
  unfold outG
  rw [show (s + (N.length : Int)).toNat = O.length + s.toNat by omega, getD_append_right']
theorem sum_cm (hN : VM N O k) (hM : VM M Q k) : CM (sumN N M) k := by
  have h1 := hN.v.n1
  refine ⟨by rw [sumN_len]; omega, fun s x h0 h2 hx => ?_⟩
  rw [sumN_len] at h2 ⊢
  rcases Int.lt_or_le s N.length with g | g
  · rw [sumN_l h0 g]
    have := hN.nx h0 g hx; omega
  · obtain ⟨t, rfl⟩ : ∃ t, s = t + (N.length : Int) := ⟨s - N.length, by omega⟩
    rw [sumN_r hM (by omega) (by omega) (by omega)]
    have := hM.nx (s := t) (c := x) (by omega) (by omega) hx; omega
theorem sum_l (hN : VM N O k) : ∀ (w : List Int) {s : Int}, 0 ≤ s → s < N.length → (∀ c ∈ w, 0 ≤ c ∧ c < k) → outsG (sumN N M) (O ++ Q) s w = outsG N O s w
  | [], _, _, _, _ => rfl
  | x :: w, s, h0, h1, hw => by
    obtain ⟨x0, x1⟩ := hw x (by simp)
    have hx := hN.nx (c := x.toNat) h0 h1 (by omega)
    rw [nxG_nat] at hx
    have := hN.ol
    simp only [outsG, sumN_l h0 h1, sumO_l h0 (show s < O.length by omega), sum_l hN w hx.1 hx.2 fun c hc => hw c (by simp [hc])]
theorem sum_r (hN : VM N O k) (hM : VM M Q k) : ∀ (w : List Int) {s : Int}, 0 ≤ s → s < M.length → (∀ c ∈ w, 0 ≤ c ∧ c < k) → outsG (sumN N M) (O ++ Q) (s + N.length) w = outsG M Q s w
  | [], _, _, _, _ => rfl
  | x :: w, s, h0, h1, hw => by
    obtain ⟨x0, x1⟩ := hw x (by simp)
    have hx := hM.nx (c := x.toNat) h0 h1 (by omega)
    rw [nxG_nat] at hx
    simp only [outsG, sumN_r hM h0 h1 ⟨x0, x1⟩, sumO_r hN.ol h0, sum_r hN hM w hx.1 hx.2 fun c hc => hw c (by simp [hc])]
theorem leB_len {a b : List Int} (h : leB a b) : a.length ≤ b.length := by
  unfold leB comesB at h
  split at h
  · omega
  · simp at h; omega
/-- how long the first word is: fewer letters than classes -/
theorem TellR.moore {x y : Int} {w : List Int} (hN : VM N O k) (hx : 0 ≤ x ∧ x < N.length) (hy : 0 ≤ y ∧ y < N.length) (h : TellR N O N O x y k w true) : w.length + 1 ≤ cntT N O k := by
  obtain ⟨h1, _, h3, h4⟩ := h.first hN hN hx hy
  have e1 : ((x.toNat : Nat) : Int) = x := by omega
  have e2 : ((y.toNat : Nat) : Int) = y := by omega
  obtain ⟨v, v1, v2, v3⟩ := hN.cm.moore (O := O) (s := x.toNat) (t := y.toNat) (by omega) (by omega) h1 (by rw [e1, e2]; exact h3)
  rw [e1, e2] at v3
  have := leB_len (h4 v v2 v3); omega
/-- fewer letters than states of both machines -/
theorem TellR.states {x y : Int} {w : List Int} (hN : VM N O k) (hM : VM M Q k) (hx : 0 ≤ x ∧ x < N.length) (hy : 0 ≤ y ∧ y < M.length) (h : TellR N O M Q x y k w true) : w.length + 1 ≤ N.length + M.length := by
  obtain ⟨h1, _, h3, h4⟩ := h.first hN hM hx hy
  have e1 : ((x.toNat : Nat) : Int) = x := by omega
  have e2 : (((y + N.length).toNat : Nat) : Int) = y + N.length := by omega
  obtain ⟨v, v1, v2, v3⟩ := (sum_cm hN hM).moore (O := O ++ Q) (s := x.toNat) (t := (y + N.length).toNat) (by rw [sumN_len]; omega) (by rw [sumN_len]; omega) h1 (by
    rw [e1, e2, sum_l hN w hx.1 hx.2 h1, sum_r hN hM w hy.1 hy.2 h1]; exact h3)
  rw [e1, e2, sum_l hN v hx.1 hx.2 v2, sum_r hN hM v hy.1 hy.2 v2] at v3
  have := leB_len (h4 v v2 v3)
  have h5 : cntT (sumN N M) (O ++ Q) k ≤ (sumN N M).length := cntI_le _
  rw [sumN_len] at h5
  omega
end
/-! shorter words, or words that come before -/
theorem befB_lex : ∀ {a b : List Int}, a.length = b.length → befB a b = lexB a b
  | [], [], _ => rfl
  | [], _ :: _, h => by simp at h
  | _ :: _, [], h => by simp at h
  | x :: a, y :: b, h => by simp only [befB, lexB]; rw [befB_lex (by simpa using h)]
theorem not_leB_of {w v : List Int} (h1 : v.length ≤ w.length) (h2 : v.length = w.length → befB v w = true) : ¬ leB w v := by
  unfold leB comesB
  split
  · rename_i e; rw [← befB_lex e, h2 e]; simp
  · simp; omega
end Go.AM
end

/-! text PlMinim -/
section
namespace Go.AM
open Go
/-! the minimal machine -/
section
variable {N O : List (List Int)} {k : Nat}
theorem cls_step (hV : VM N O k) {s t : Nat} (hs : s < N.length) (ht : t < N.length) (h : atC (clsT N O k) s = atC (clsT N O k) t) {x : Nat} (hx : x < k) :
    outG O s x = outG O t x ∧ atC (clsT N O k) (nxG N s x).toNat = atC (clsT N O k) (nxG N t x).toNat := by
  obtain ⟨i, _, h2, h3⟩ := hV.cm.stop (O := O)
  have h4 : atC (clsI N O k (i + 1)) s = atC (clsI N O k (i + 1)) t := by rw [h3, h2]; exact h
  rw [clsI_succ hs ht, kF_eq, h2] at h4
  exact h4 x hx
theorem minN_get {c : Nat} (h : c < cntT N O k) : (minN N O k).getD c [] = rowN N O k (repC N O k c) := by simp [minN, List.getD, h]
theorem minO_get {c : Nat} (h : c < cntT N O k) : (minO N O k).getD c [] = O.getD (repC N O k c) [] := by simp [minO, List.getD, h]
theorem rowN_get (hV : VM N O k) {s x : Nat} (hs : s < N.length) (hx : x < k) : (rowN N O k s).getD x 0 = atC (clsT N O k) (nxG N s x).toNat := by
  have h1 := (hV.v.row _ (getD_mem' hs)).1
  have h2 : x < (N.getD s []).length := by omega
  unfold rowN atC nxG
  simp only [Int.toNat_natCast]
  generalize N.getD s [] = r at h2
  simp [List.getD, h2]
theorem min_st (hV : VM N O k) {s : Nat} (hs : s < N.length) : ∃ d, d < cntT N O k ∧ atC (clsT N O k) s = (d : Int) ∧ repC N O k d < N.length ∧ atC (clsT N O k) (repC N O k d) = atC (clsT N O k) s := by
  obtain ⟨h1, h2⟩ := cls_rng (N := N) (O := O) (k := k) hs
  have h3 : (atC (clsT N O k) s).toNat < cntT N O k := by omega
  have h4 := repC_ok h3
  exact ⟨_, h3, by omega, h4.1, by rw [h4.2.2.2]; omega⟩
theorem nx_min (hV : VM N O k) {s x : Nat} (hs : s < N.length) (hx : x < k) : nxG (minN N O k) (atC (clsT N O k) s) x = atC (clsT N O k) (nxG N s x).toNat := by
  obtain ⟨d, h1, h2, h3, h4⟩ := min_st hV hs
  have h5 := (cls_step hV h3 hs h4 hx).2
  rw [← h5, ← rowN_get hV h3 hx, ← minN_get h1, h2]
  simp [nxG]
theorem out_min (hV : VM N O k) {s x : Nat} (hs : s < N.length) (hx : x < k) : outG (minO N O k) (atC (clsT N O k) s) x = outG O s x := by
  obtain ⟨d, h1, h2, h3, h4⟩ := min_st hV hs
  have h5 := (cls_step hV h3 hs h4 hx).1
  rw [← h5, h2]
  unfold outG
  simp only [Int.toNat_natCast]
  rw [minO_get h1]
theorem outs_min (hV : VM N O k) : ∀ (w : List Int) {s : Nat}, s < N.length → (∀ c ∈ w, 0 ≤ c ∧ c < k) → outsG (minN N O k) (minO N O k) (atC (clsT N O k) s) w = outsG N O s w
  | [], _, _, _ => rfl
  | x :: w, s, hs, hw => by
    obtain ⟨h0, h1⟩ := hw x (by simp)
    have hx : x.toNat < k := by omega
    have h2 := out_min hV hs hx
    have h3 := nx_min hV hs hx
    rw [outG_nat, outG_nat] at h2
    rw [nxG_nat, nxG_nat] at h3
    have h4 := hV.cm.nat hs hx
    rw [nxG_nat] at h4
    have h5 := outs_min hV w h4 fun c hc => hw c (by simp [hc])
    rw [outsG_st] at h5
    simp only [outsG, h2, h3, h5]
theorem cnt_pos (hV : VM N O k) : 1 ≤ cntT N O k := by
  have := hV.v.n1
  have := cls_rng (N := N) (O := O) (k := k) (s := 0) (by omega)
  omega
theorem min_vm (hV : VM N O k) : VM (minN N O k) (minO N O k) k := by
  have h1 : cntT N O k ≤ N.length := cntI_le _
  have h2 := hV.v.n2
  have h3 := cnt_pos hV
  have e1 : (minN N O k).length = cntT N O k := by simp [minN]
  have e2 : (minO N O k).length = cntT N O k := by simp [minO]
  refine ⟨⟨by omega, by omega, hV.v.k1, hV.v.k2, fun r hr => ?_⟩, by omega, fun r hr => ?_⟩
  · obtain ⟨c, hc, rfl⟩ := List.mem_map.1 hr
    have h4 := (repC_ok (N := N) (O := O) (k := k) (List.mem_range.1 hc)).1
    have h5 := hV.v.row _ (getD_mem' h4)
    refine ⟨by rw [rowN, List.length_map]; exact h5.1, fun t ht => ?_⟩
    obtain ⟨u, hu, rfl⟩ := List.mem_map.1 ht
    have h6 := h5.2 u hu
    have h7 := cls_rng (N := N) (O := O) (k := k) (s := u.toNat) (by omega)
    rw [e1]; exact h7
  · obtain ⟨c, hc, rfl⟩ := List.mem_map.1 hr
    have h4 := (repC_ok (N := N) (O := O) (k := k) (List.mem_range.1 hc)).1
    exact hV.orow _ (getD_mem' (by have := hV.ol; omega))
theorem minA_len : (minN N O k).length = cntT N O k := by simp [minN]
theorem cntF_all {E : Nat → Nat → Bool} : ∀ {n : Nat}, (∀ s, s < n → isF E s = true) → cntF E n = n
  | 0, _ => rfl
  | n + 1, h => by rw [cntF, cntF_all fun s hs => h s (by omega), h n (by omega)]; rfl
/-- no two states of the minimal machine are equivalent -/
theorem min_dist (hV : VM N O k) {s t : Nat} (hs : s < cntT N O k) (ht : t < cntT N O k) (h : atC (clsT (minN N O k) (minO N O k) k) s = atC (clsT (minN N O k) (minO N O k) k) t) : s = t := by
  obtain ⟨s1, _, _, s4⟩ := repC_ok hs
  obtain ⟨t1, _, _, t4⟩ := repC_ok ht
  have h2 := ((min_vm hV).cm.iff (O := minO N O k) (by rw [minA_len]; exact hs) (by rw [minA_len]; exact ht)).1 h
  have h3 : atC (clsT N O k) (repC N O k s) = atC (clsT N O k) (repC N O k t) := (hV.cm.iff s1 t1).2 fun w hw => by
    rw [← outs_min hV w s1 hw, ← outs_min hV w t1 hw, s4, t4]; exact h2 w hw
  rw [s4, t4] at h3; omega
theorem min_isF (hV : VM N O k) {s : Nat} (hs : s < cntT N O k) : isF (clE (minN N O k) (minO N O k) k) s = true := isF_iff.2 fun t ht e => by
  have := min_dist hV hs (by omega) e; omega
theorem cls_min (hV : VM N O k) {s : Nat} (hs : s < cntT N O k) : atC (clsT (minN N O k) (minO N O k) k) s = s := by
  rw [cls_at (by rw [minA_len]; exact hs), Int.natCast_inj]
  refine (numF_isF (min_isF hV hs)).trans ?_
  exact cntF_all fun t ht => min_isF hV (by omega)
theorem cnt_min (hV : VM N O k) : cntT (minN N O k) (minO N O k) k = cntT N O k := by
  show cntF (clE (minN N O k) (minO N O k) k) (minN N O k).length = _
  rw [minA_len]
  exact cntF_all fun t ht => min_isF hV ht
theorem rep_min (hV : VM N O k) {c : Nat} (h : c < cntT N O k) : repC (minN N O k) (minO N O k) k c = c := by
  obtain ⟨h1, _, _, h4⟩ := repC_ok (N := minN N O k) (O := minO N O k) (k := k) (c := c) (by rw [cnt_min hV]; exact h)
  rw [minA_len] at h1
  rw [cls_min hV h1] at h4
  omega
theorem map_range_getD (l : List (List Int)) : (List.range l.length).map (fun c => l.getD c []) = l := by
  refine List.ext_getElem (by simp) fun i h1 h2 => ?_
  simp [List.getD, h2]
theorem minN_min (hV : VM N O k) : minN (minN N O k) (minO N O k) k = minN N O k := by
  conv => rhs; rw [← map_range_getD (minN N O k)]
  unfold minN
  rw [show cntT ((List.range (cntT N O k)).map fun c => rowN N O k (repC N O k c)) (minO N O k) k = cntT N O k from cnt_min hV]
  rw [show ((List.range (cntT N O k)).map fun c => rowN N O k (repC N O k c)).length = cntT N O k by simp]
  refine List.map_congr_left fun c hc => ?_
  have hc := List.mem_range.1 hc
  have e : repC ((List.range (cntT N O k)).map fun c => rowN N O k (repC N O k c)) (minO N O k) k c = c := rep_min hV hc
  rw [e]
  unfold rowN
  have hr := ((min_vm hV).v.row ((minN N O k).getD c []) (getD_mem' (by rw [minA_len]; exact hc))).2
  have e2 : ∀ t ∈ (minN N O k).getD c [], (clsT (minN N O k) (minO N O k) k).getD t.toNat 0 = t := fun t ht => by
    obtain ⟨h1, h2⟩ := hr t ht
    rw [minA_len] at h2
    have := cls_min hV (s := t.toNat) (by omega)
    unfold atC at this
    rw [this]; omega
  exact (List.map_congr_left e2).trans (List.map_id _)
theorem minO_min (hV : VM N O k) : minO (minN N O k) (minO N O k) k = minO N O k := by
  conv => rhs; rw [← map_range_getD (minO N O k)]
  show (List.range (cntT (minN N O k) (minO N O k) k)).map _ = _
  rw [cnt_min hV, show (minO N O k).length = cntT N O k by simp [minO]]
  refine List.map_congr_left fun c hc => ?_
  rw [rep_min hV (List.mem_range.1 hc)]
/-- a state and its class are told apart by no word -/
theorem TellR.min (hV : VM N O k) {s : Nat} (hs : s < N.length) {w : List Int} {b : Bool} (h : TellR N O (minN N O k) (minO N O k) s (atC (clsT N O k) s) k w b) : b = false := by
  cases b with
  | false => rfl
  | true =>
    have h1 := cls_rng (N := N) (O := O) (k := k) hs
    obtain ⟨h2, _, h3, _⟩ := h.first hV (min_vm hV) ⟨by omega, by omega⟩ ⟨h1.1, by rw [minA_len]; exact h1.2⟩
    exact absurd (outs_min hV w hs h2).symm h3
/-- states are told apart if and only if their classes are two -/
theorem TellR.cls (hV : VM N O k) {x y : Int} (hx : 0 ≤ x ∧ x < N.length) (hy : 0 ≤ y ∧ y < N.length) {w : List Int} {b : Bool} (h : TellR N O N O x y k w b) : b = false ↔ atC (clsT N O k) x.toNat = atC (clsT N O k) y.toNat := by
  rw [hV.cm.iff (by omega) (by omega)]
  have e1 : ((x.toNat : Nat) : Int) = x := by omega
  have e2 : ((y.toNat : Nat) : Int) = y := by omega
  rw [e1, e2]
  cases b with
  | false => exact ⟨fun _ => h.none hV hV hx hy, fun _ => rfl⟩
  | true =>
    obtain ⟨h2, _, h3, _⟩ := h.first hV hV hx hy
    exact ⟨fun g => (by cases g), fun g => absurd (g w h2) h3⟩
end
end Go.AM
end

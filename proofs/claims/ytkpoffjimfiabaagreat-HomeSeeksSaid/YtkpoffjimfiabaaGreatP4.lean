/-
  Plain facts on tables of pairs of states and their words; no program in sight.
-/
import Derived.Test.YtkpoffjimfiabaaGreatP2
import Derived.Test.YtkpoffjimfiabaaGreatF2b
import Derived.Test.YtkpoffjimfiabaaGreatP3
set_option linter.unusedVariables false
set_option linter.unusedSimpArgs false
set_option linter.unusedSectionVars false
set_option linter.unnecessarySimpa false

section
namespace Go.AM
open Go
theorem nxG_nat (N : List (List Int)) (s x : Int) : nxG N s ((x.toNat : Nat) : Int) = nxG N s x := by simp only [nxG, Int.toNat_natCast]
theorem outG_nat (O : List (List Int)) (s x : Int) : outG O s ((x.toNat : Nat) : Int) = outG O s x := by simp only [outG, Int.toNat_natCast]
theorem nxG_st (N : List (List Int)) (s x : Int) : nxG N ((s.toNat : Nat) : Int) x = nxG N s x := by simp only [nxG, Int.toNat_natCast]
theorem outG_st (O : List (List Int)) (s x : Int) : outG O ((s.toNat : Nat) : Int) x = outG O s x := by simp only [outG, Int.toNat_natCast]
theorem outsG_st (N O : List (List Int)) (s : Int) (w : List Int) : outsG N O ((s.toNat : Nat) : Int) w = outsG N O s w := by
 cases w with
 | nil => rfl
 | cons x w => simp only [outsG, nxG_st, outG_st]
theorem runW_lead (N M : List (List Int)) : ∀ (w : List Int) (p : Int × Int), runW (dltP N M) p w = (leadG N p.1 w, leadG M p.2 w)
 | [], _ => rfl
 | x :: w, p => by
  show runW (dltP N M) (dltP N M p x.toNat) w = _
  rw [runW_lead N M w]
  simp only [dltP, nxG_nat]; rfl
theorem outsG_snoc (N O : List (List Int)) (s : Int) (w : List Int) (x : Int) : outsG N O s (w ++ [x]) = outsG N O s w ++ [outG O (leadG N s w) x] := by rw [outsG_append]; rfl
theorem first_dif {N O M Q : List (List Int)} {x y : Int} : ∀ (n : Nat) (v : List Int), v.length = n → outsG N O x v ≠ outsG M Q y v → ∃ u d t, v = u ++ d :: t ∧ outG O (leadG N x u) d ≠ outG Q (leadG M y u) d := by
 intro n
 induction n with
 | zero => intro v hv h; rw [List.length_eq_zero_iff.1 hv] at h; exact absurd rfl h
 | succ n ih =>
  intro v hv h
  obtain ⟨u, d, rfl⟩ : ∃ u d, v = u ++ [d] := ⟨v.dropLast, v.getLast (fun e => by simp [e] at hv), (List.dropLast_concat_getLast _).symm⟩
  rw [outsG_snoc, outsG_snoc] at h
  by_cases e : outsG N O x u = outsG M Q y u
  ·exact ⟨u, d, [], rfl, fun e2 => h (by rw [e, e2])⟩
  ·obtain ⟨u', d', t, e1, e2⟩ := ih u (by simpa using hv) e
   exact ⟨u', d', t ++ [d], by rw [e1]; simp, e2⟩
theorem leB_pre (u : List Int) (d : Int) (t : List Int) : leB (u ++ [d]) (u ++ d :: t) := by
 cases t with
 | nil => exact leB_refl _
 | cons a t => exact leB_of (by unfold comesB; rw [if_neg (by simp)]; simp)
theorem TellR.first {N O M Q : List (List Int)} {x y : Int} {k : Nat} {w : List Int} (hN : VM N O k) (hM : VM M Q k) (hx : 0 ≤ x ∧ x < N.length) (hy : 0 ≤ y ∧ y < M.length) (h : TellR N O M Q x y k w true) :
  (∀ c ∈ w, 0 ≤ c ∧ c < k) ∧ w ≠ [] ∧ outsG N O x w ≠ outsG M Q y w ∧ ∀ v : List Int, (∀ c ∈ v, 0 ≤ c ∧ c < k) → outsG N O x v ≠ outsG M Q y v → leB w v := by
 have hb : BInv (dltP N M) (x, y) k (N.length * M.length) 0 (finP N M x y k) := bfs_inv _
 have hd : Done (dltP N M) (x, y) k (finP N M x y k) := ⟨hb.done (pair_len hN hM hx hy hb)⟩
 rcases h with ⟨i, c, h1, h2, h3, h4, h5, rfl, _⟩ | ⟨_, _, h⟩
 case inr => cases h
 obtain ⟨r1, r2⟩ := hd.reach i h1
 rw [runW_lead] at r1
 refine ⟨fun z hz => ?_, by simp, ?_, ?_⟩
 ·rcases List.mem_append.1 hz with hz | hz
  ·exact r2 z hz
  ·simp at hz; subst hz; omega
 ·rw [outsG_snoc, outsG_snoc]
  intro e
  have := List.append_inj_right e (by rw [outsG_len, outsG_len])
  simp only [List.cons.injEq, and_true] at this
  unfold difP at h3
  rw [← r1] at h3
  exact h3 this
 ·intro v hv he
  obtain ⟨u, d, t, rfl, h6⟩ := first_dif v.length v rfl he
  have hu : ∀ z ∈ u, 0 ≤ z ∧ z < k := fun z hz => hv z (by simp [hz])
  have hdk := hv d (by simp)
  obtain ⟨m, m1, m2, m3⟩ := hd.first u hu
  rw [runW_lead] at m2
  have hdif : difP O Q ((finP N M x y k).1.getD m (x, y)) d.toNat := by
   rw [← m2]; show outG O _ _ ≠ outG Q _ _
   rw [outG_nat, outG_nat]; exact h6
  have hmi : i ≤ m := by
   rcases Nat.lt_or_ge m i with g | g
   ·exact absurd hdif (h5 m d.toNat g (by omega))
   ·exact g
  refine leB_trans ?_ (leB_pre u d t)
  rcases leB_iff.1 m3 with e | e
  ·rcases Nat.lt_or_ge i m with g | g
   ·refine leB_of (comesB_snoc _ _ ?_)
    rw [← e]; exact hb.sorted i m g m1
   ·obtain rfl : i = m := by omega
    rw [e]
    have hcd : ¬ d.toNat < c := fun g => h4 _ g hdif
    rcases Nat.lt_or_ge c d.toNat with g2 | g2
    ·exact leB_of (comesB_last u (by omega))
    ·rw [show (c : Int) = d by omega]; exact leB_refl _
  ·refine leB_of (comesB_snoc _ _ ?_)
   rcases Nat.lt_or_ge i m with g | g
   ·exact comesB_trans (hb.sorted i m g m1) e
   ·obtain rfl : i = m := by omega
    exact e
theorem TellR.none {N O M Q : List (List Int)} {x y : Int} {k : Nat} {w : List Int} (hN : VM N O k) (hM : VM M Q k) (hx : 0 ≤ x ∧ x < N.length) (hy : 0 ≤ y ∧ y < M.length) (h : TellR N O M Q x y k w false) :
  ∀ v : List Int, (∀ c ∈ v, 0 ≤ c ∧ c < k) → outsG N O x v = outsG M Q y v := by
 have hb : BInv (dltP N M) (x, y) k (N.length * M.length) 0 (finP N M x y k) := bfs_inv _
 have hd : Done (dltP N M) (x, y) k (finP N M x y k) := ⟨hb.done (pair_len hN hM hx hy hb)⟩
 rcases h with ⟨_, _, _, _, _, _, _, _, h⟩ | ⟨h1, _, _⟩
 ·cases h
 intro v hv
 by_cases he : outsG N O x v = outsG M Q y v
 ·exact he
 obtain ⟨u, d, t, rfl, h6⟩ := first_dif v.length v rfl he
 obtain ⟨m, m1, m2, m3⟩ := hd.first u fun z hz => hv z (by simp [hz])
 rw [runW_lead] at m2
 have hdk := hv d (by simp)
 refine absurd ?_ (h1 m d.toNat m1 (by omega))
 rw [← m2]; show outG O _ _ ≠ outG Q _ _
 rw [outG_nat, outG_nat]; exact h6
structure CM (N : List (List Int)) (k : Nat) : Prop where
 n1 : 1 ≤ N.length
 nx : ∀ (s : Int) (x : Nat), 0 ≤ s → s < N.length → x < k → 0 ≤ nxG N s x ∧ nxG N s x < N.length
theorem VM.cm {N O : List (List Int)} {k : Nat} (h : VM N O k) : CM N k := ⟨h.v.n1, fun _ _ h1 h2 h3 => h.nx h1 h2 h3⟩
section
variable {N O : List (List Int)} {k : Nat}
theorem CM.nat (hN : CM N k) {s x : Nat} (hs : s < N.length) (hx : x < k) : (nxG N s x).toNat < N.length := by
 have := hN.nx (s : Int) x (by omega) (by omega) hx; omega
theorem CM.mono (hN : CM N k) : ∀ (i : Nat) {s t : Nat}, s < N.length → t < N.length → atC (clsI N O k (i + 1)) s = atC (clsI N O k (i + 1)) t → atC (clsI N O k i) s = atC (clsI N O k i) t
 | 0, s, t, hs, ht, _ => by simp [clsI, atC, List.getD, hs, ht]
 | i + 1, s, t, hs, ht, h => by
  rw [clsI_succ hs ht]
  rw [clsI_succ hs ht, kF_eq] at h
  rw [kF_eq]
  intro x hx
  obtain ⟨h1, h2⟩ := h x hx
  exact ⟨h1, CM.mono hN i (hN.nat hs hx) (hN.nat ht hx) h2⟩
theorem CM.stable (hN : CM N k) {i : Nat} (h : cntI N O k (i + 1) = cntI N O k i) : clsI N O k (i + 1) = clsI N O k i := by
 have := same_count (f := atC (clsI N O k (i + 1))) (g := atC (clsI N O k i)) (n := N.length) (fun s t hs ht => hN.mono i hs ht) h
 refine list_ext_at (clsI_len _) (clsI_len _) fun s hs => ?_
 rw [clsI_canon (i + 1) hs, clsI_canon i hs, Int.natCast_inj]
 exact numF_congr (n := N.length) (fun s t hs ht => by simp only [keyE, decide_eq_decide]; exact this s t hs ht) hs
theorem CM.grow (hN : CM N k) : ∀ i, (∀ j, j < i → cntI N O k (j + 1) ≠ cntI N O k j) → i + 1 ≤ cntI N O k i
 | 0, _ => by rw [cntI_zero hN.n1]; exact Nat.le_refl _
 | i + 1, h => by
  have h1 := CM.grow hN i fun j hj => h j (by omega)
  have h2 : cntI N O k i ≤ cntI N O k (i + 1) := count_le fun s t hs ht h => hN.mono i hs ht h
  have h3 := h i (by omega)
  omega
theorem CM.stop (hN : CM N k) : ∃ i, i + 1 ≤ cntT N O k ∧ clsI N O k i = clsT N O k ∧ clsI N O k (i + 1) = clsI N O k i := by
 have hex : ∃ j, cntI N O k (j + 1) = cntI N O k j := Classical.byContradiction fun h => by
  have := hN.grow (O := O) N.length fun j _ e => h ⟨j, e⟩
  have := cntI_le (N := N) (O := O) (k := k) N.length
  omega
 obtain ⟨i, h1, h2⟩ : ∃ i, cntI N O k (i + 1) = cntI N O k i ∧ ∀ j, j < i → cntI N O k (j + 1) ≠ cntI N O k j := by
  obtain ⟨j, hj⟩ := hex
  induction j using Nat.strongRecOn with
  | _ j ih =>
   by_cases g : ∃ m, m < j ∧ cntI N O k (m + 1) = cntI N O k m
   ·obtain ⟨m, m1, m2⟩ := g; exact ih m m1 m2
   ·exact ⟨j, hj, fun m hm e => g ⟨m, hm, e⟩⟩
 have h3 := hN.grow i h2
 have h4 := cntI_le (N := N) (O := O) (k := k) i
 have h5 := hN.stable h1
 have h6 := clsI_from h5 (N.length - i)
 rw [show i + (N.length - i) = N.length by omega] at h6
 refine ⟨i, ?_, h6.symm, h5⟩
 unfold cntT cntI; rw [h6]; exact h3
theorem CM.word (hN : CM N k) : ∀ (i s t : Nat), s < N.length → t < N.length → atC (clsI N O k i) s ≠ atC (clsI N O k i) t → ∃ w : List Int, w.length ≤ i ∧ (∀ c ∈ w, 0 ≤ c ∧ c < k) ∧ outsG N O s w ≠ outsG N O t w
 | 0, s, t, hs, ht, h => absurd (by simp [clsI, atC, List.getD, hs, ht]) h
 | i + 1, s, t, hs, ht, h => by
  rw [Ne, clsI_succ hs ht, kF_eq] at h
  obtain ⟨x, hx⟩ := Classical.not_forall.1 h
  obtain ⟨hx, h⟩ := Classical.not_imp.1 hx
  by_cases e : outG O s x = outG O t x
  ·have h2 : atC (clsI N O k i) (nxG N s x).toNat ≠ atC (clsI N O k i) (nxG N t x).toNat := fun g => h ⟨e, g⟩
   obtain ⟨w, w1, w2, w3⟩ := CM.word hN i _ _ (hN.nat hs hx) (hN.nat ht hx) h2
   rw [outsG_st, outsG_st] at w3
   refine ⟨(x : Int) :: w, by simp; omega, fun c hc => ?_, fun g => ?_⟩
   ·rcases List.mem_cons.1 hc with rfl | hc
    ·omega
    ·exact w2 c hc
   ·simp only [outsG, List.cons.injEq] at g
    exact w3 g.2
  ·exact ⟨[(x : Int)], by simp, fun c hc => by simp at hc; subst hc; omega, fun g => e (by simpa [outsG] using g)⟩
theorem CM.cls (hN : CM N k) : ∀ (w : List Int) (i s t : Nat), s < N.length → t < N.length → w.length ≤ i → (∀ c ∈ w, 0 ≤ c ∧ c < k) → atC (clsI N O k i) s = atC (clsI N O k i) t → outsG N O s w = outsG N O t w
 | [], _, _, _, _, _, _, _, _ => rfl
 | x :: w, 0, _, _, _, _, h, _, _ => by simp at h
 | x :: w, i + 1, s, t, hs, ht, hl, hw, h => by
  obtain ⟨h0, h1⟩ := hw x (by simp)
  rw [clsI_succ hs ht, kF_eq] at h
  obtain ⟨a, b⟩ := h x.toNat (by omega)
  rw [outG_nat, outG_nat] at a
  have hx : x.toNat < k := by omega
  have := CM.cls hN w i _ _ (hN.nat hs hx) (hN.nat ht hx) (by simpa using hl) (fun c hc => hw c (by simp [hc])) b
  rw [outsG_st, outsG_st, nxG_nat, nxG_nat] at this
  simp only [outsG, a, this]
theorem CM.iff (hN : CM N k) {s t : Nat} (hs : s < N.length) (ht : t < N.length) : atC (clsT N O k) s = atC (clsT N O k) t ↔ ∀ w : List Int, (∀ c ∈ w, 0 ≤ c ∧ c < k) → outsG N O s w = outsG N O t w := by
 constructor
 ·intro h w hw
  obtain ⟨i, h1, h2, h3⟩ := hN.stop (O := O)
  refine hN.cls w (i + w.length) s t hs ht (by omega) hw ?_
  rw [clsI_from h3 w.length, h2]; exact h
 ·intro h
  refine Classical.byContradiction fun g => ?_
  obtain ⟨w, _, w2, w3⟩ := hN.word _ _ _ hs ht g
  exact w3 (h w w2)
theorem CM.moore (hN : CM N k) {s t : Nat} (hs : s < N.length) (ht : t < N.length) {w : List Int} (hw : ∀ c ∈ w, 0 ≤ c ∧ c < k) (h : outsG N O s w ≠ outsG N O t w) :
  ∃ v : List Int, v.length + 1 ≤ cntT N O k ∧ (∀ c ∈ v, 0 ≤ c ∧ c < k) ∧ outsG N O s v ≠ outsG N O t v := by
 obtain ⟨i, h1, h2, _⟩ := hN.stop (O := O)
 have : atC (clsI N O k i) s ≠ atC (clsI N O k i) t := fun g => by
  rw [h2] at g
  exact h ((hN.iff hs ht).1 g w hw)
 obtain ⟨v, v1, v2, v3⟩ := hN.word _ _ _ hs ht this
 exact ⟨v, by omega, v2, v3⟩
end
def sumN (N M : List (List Int)) : List (List Int) := N ++ M.map fun r => r.map (· + (N.length : Int))
section
variable {N O M Q : List (List Int)} {k : Nat}
theorem sumN_len : (sumN N M).length = N.length + M.length := by simp [sumN]
theorem sumN_l {s x : Int} (h0 : 0 ≤ s) (h : s < N.length) : nxG (sumN N M) s x = nxG N s x := by
 unfold nxG sumN
 rw [getD_append_left (by omega)]
theorem sumO_l {s x : Int} (h0 : 0 ≤ s) (h : s < O.length) : outG (O ++ Q) s x = outG O s x := by
 unfold outG
 rw [getD_append_left (by omega)]
theorem getD_append_right' {α : Type} {l l' : List α} {i : Nat} {d : α} : (l ++ l').getD (l.length + i) d = l'.getD i d := by
 rw [List.getD, List.getElem?_append_right (by omega), Nat.add_sub_cancel_left]; rfl
theorem sumN_r (hM : VM M Q k) {s x : Int} (h0 : 0 ≤ s) (h : s < M.length) (hx : 0 ≤ x ∧ x < k) : nxG (sumN N M) (s + N.length) x = nxG M s x + N.length := by
 unfold nxG sumN
 rw [show (s + (N.length : Int)).toNat = N.length + s.toNat by omega, getD_append_right']
 have hs : s.toNat < M.length := by omega
 have hr := (hM.v.row _ (getD_mem' hs)).1
 rw [show (M.map fun r => r.map (· + (N.length : Int))).getD s.toNat [] = (M.getD s.toNat []).map (· + (N.length : Int)) by simp [List.getD, hs]]
 have hx2 : x.toNat < (M.getD s.toNat []).length := by omega
 generalize M.getD s.toNat [] = r at hx2 ⊢
 simp [List.getD, hx2]
theorem sumO_r {s x : Int} (hO : O.length = N.length) (h0 : 0 ≤ s) : outG (O ++ Q) (s + N.length) x = outG Q s x := by
 unfold outG
 rw [show (s + (N.length : Int)).toNat = O.length + s.toNat by omega, getD_append_right']
theorem sum_cm (hN : VM N O k) (hM : VM M Q k) : CM (sumN N M) k := by
 have h1 := hN.v.n1
 refine ⟨by rw [sumN_len]; omega, fun s x h0 h2 hx => ?_⟩
 rw [sumN_len] at h2 ⊢
 rcases Int.lt_or_le s N.length with g | g
 ·rw [sumN_l h0 g]
  have := hN.nx h0 g hx; omega
 ·obtain ⟨t, rfl⟩ : ∃ t, s = t + (N.length : Int) := ⟨s - N.length, by omega⟩
  rw [sumN_r hM (by omega) (by omega) (by omega)]
  have := hM.nx (s := t) (c := x) (by omega) (by omega) hx; omega
theorem sum_l (hN : VM N O k) : ∀ (w : List Int) {s : Int}, 0 ≤ s → s < N.length → (∀ c ∈ w, 0 ≤ c ∧ c < k) → outsG (sumN N M) (O ++ Q) s w = outsG N O s w
 | [], _, _, _, _ => rfl
 | x :: w, s, h0, h1, hw => by
  obtain ⟨x0, x1⟩ := hw x (by simp)
  have hx := hN.nx (c := x.toNat) h0 h1 (by omega)
  rw [nxG_nat] at hx
  have := hN.ol
  simp only [outsG, sumN_l h0 h1, sumO_l h0 (show s < O.length by omega), sum_l hN w hx.1 hx.2 fun c hc => hw c (by simp [hc])]
theorem sum_r (hN : VM N O k) (hM : VM M Q k) : ∀ (w : List Int) {s : Int}, 0 ≤ s → s < M.length → (∀ c ∈ w, 0 ≤ c ∧ c < k) → outsG (sumN N M) (O ++ Q) (s + N.length) w = outsG M Q s w
 | [], _, _, _, _ => rfl
 | x :: w, s, h0, h1, hw => by
  obtain ⟨x0, x1⟩ := hw x (by simp)
  have hx := hM.nx (c := x.toNat) h0 h1 (by omega)
  rw [nxG_nat] at hx
  simp only [outsG, sumN_r hM h0 h1 ⟨x0, x1⟩, sumO_r hN.ol h0, sum_r hN hM w hx.1 hx.2 fun c hc => hw c (by simp [hc])]
theorem leB_len {a b : List Int} (h : leB a b) : a.length ≤ b.length := by
 unfold leB comesB at h
 split at h
 ·omega
 ·simp at h; omega
theorem TellR.moore {x y : Int} {w : List Int} (hN : VM N O k) (hx : 0 ≤ x ∧ x < N.length) (hy : 0 ≤ y ∧ y < N.length) (h : TellR N O N O x y k w true) : w.length + 1 ≤ cntT N O k := by
 obtain ⟨h1, _, h3, h4⟩ := h.first hN hN hx hy
 have e1 : ((x.toNat : Nat) : Int) = x := by omega
 have e2 : ((y.toNat : Nat) : Int) = y := by omega
 obtain ⟨v, v1, v2, v3⟩ := hN.cm.moore (O := O) (s := x.toNat) (t := y.toNat) (by omega) (by omega) h1 (by rw [e1, e2]; exact h3)
 rw [e1, e2] at v3
 have := leB_len (h4 v v2 v3); omega
theorem TellR.states {x y : Int} {w : List Int} (hN : VM N O k) (hM : VM M Q k) (hx : 0 ≤ x ∧ x < N.length) (hy : 0 ≤ y ∧ y < M.length) (h : TellR N O M Q x y k w true) : w.length + 1 ≤ N.length + M.length := by
 obtain ⟨h1, _, h3, h4⟩ := h.first hN hM hx hy
 have e1 : ((x.toNat : Nat) : Int) = x := by omega
 have e2 : (((y + N.length).toNat : Nat) : Int) = y + N.length := by omega
 obtain ⟨v, v1, v2, v3⟩ := (sum_cm hN hM).moore (O := O ++ Q) (s := x.toNat) (t := (y + N.length).toNat) (by rw [sumN_len]; omega) (by rw [sumN_len]; omega) h1 (by
  rw [e1, e2, sum_l hN w hx.1 hx.2 h1, sum_r hN hM w hy.1 hy.2 h1]; exact h3)
 rw [e1, e2, sum_l hN v hx.1 hx.2 v2, sum_r hN hM v hy.1 hy.2 v2] at v3
 have := leB_len (h4 v v2 v3)
 have h5 : cntT (sumN N M) (O ++ Q) k ≤ (sumN N M).length := cntI_le _
 rw [sumN_len] at h5
 omega
end
theorem befB_lex : ∀ {a b : List Int}, a.length = b.length → befB a b = lexB a b
 | [], [], _ => rfl
 | [], _ :: _, h => by simp at h
 | _ :: _, [], h => by simp at h
 | x :: a, y :: b, h => by simp only [befB, lexB]; rw [befB_lex (by simpa using h)]
end Go.AM
end

section
namespace Go.AM
open Go
section
variable {N O : List (List Int)} {k : Nat}
theorem cls_step (hV : VM N O k) {s t : Nat} (hs : s < N.length) (ht : t < N.length) (h : atC (clsT N O k) s = atC (clsT N O k) t) {x : Nat} (hx : x < k) :
  outG O s x = outG O t x ∧ atC (clsT N O k) (nxG N s x).toNat = atC (clsT N O k) (nxG N t x).toNat := by
 obtain ⟨i, _, h2, h3⟩ := hV.cm.stop (O := O)
 have h4 : atC (clsI N O k (i + 1)) s = atC (clsI N O k (i + 1)) t := by rw [h3, h2]; exact h
 rw [clsI_succ hs ht, kF_eq, h2] at h4
 exact h4 x hx
theorem minN_get {c : Nat} (h : c < cntT N O k) : (minN N O k).getD c [] = rowN N O k (repC N O k c) := by simp [minN, List.getD, h]
theorem minO_get {c : Nat} (h : c < cntT N O k) : (minO N O k).getD c [] = O.getD (repC N O k c) [] := by simp [minO, List.getD, h]
theorem rowN_get (hV : VM N O k) {s x : Nat} (hs : s < N.length) (hx : x < k) : (rowN N O k s).getD x 0 = atC (clsT N O k) (nxG N s x).toNat := by
 have h1 := (hV.v.row _ (getD_mem' hs)).1
 have h2 : x < (N.getD s []).length := by omega
 unfold rowN atC nxG
 simp only [Int.toNat_natCast]
 generalize N.getD s [] = r at h2
 simp [List.getD, h2]
theorem min_st (hV : VM N O k) {s : Nat} (hs : s < N.length) : ∃ d, d < cntT N O k ∧ atC (clsT N O k) s = (d : Int) ∧ repC N O k d < N.length ∧ atC (clsT N O k) (repC N O k d) = atC (clsT N O k) s := by
 obtain ⟨h1, h2⟩ := cls_rng (N := N) (O := O) (k := k) hs
 have h3 : (atC (clsT N O k) s).toNat < cntT N O k := by omega
 have h4 := repC_ok h3
 exact ⟨_, h3, by omega, h4.1, by rw [h4.2.2.2]; omega⟩
theorem nx_min (hV : VM N O k) {s x : Nat} (hs : s < N.length) (hx : x < k) : nxG (minN N O k) (atC (clsT N O k) s) x = atC (clsT N O k) (nxG N s x).toNat := by
 obtain ⟨d, h1, h2, h3, h4⟩ := min_st hV hs
 have h5 := (cls_step hV h3 hs h4 hx).2
 rw [← h5, ← rowN_get hV h3 hx, ← minN_get h1, h2]
 simp [nxG]
theorem out_min (hV : VM N O k) {s x : Nat} (hs : s < N.length) (hx : x < k) : outG (minO N O k) (atC (clsT N O k) s) x = outG O s x := by
 obtain ⟨d, h1, h2, h3, h4⟩ := min_st hV hs
 have h5 := (cls_step hV h3 hs h4 hx).1
 rw [← h5, h2]
 unfold outG
 simp only [Int.toNat_natCast]
 rw [minO_get h1]
theorem outs_min (hV : VM N O k) : ∀ (w : List Int) {s : Nat}, s < N.length → (∀ c ∈ w, 0 ≤ c ∧ c < k) → outsG (minN N O k) (minO N O k) (atC (clsT N O k) s) w = outsG N O s w
 | [], _, _, _ => rfl
 | x :: w, s, hs, hw => by
  obtain ⟨h0, h1⟩ := hw x (by simp)
  have hx : x.toNat < k := by omega
  have h2 := out_min hV hs hx
  have h3 := nx_min hV hs hx
  rw [outG_nat, outG_nat] at h2
  rw [nxG_nat, nxG_nat] at h3
  have h4 := hV.cm.nat hs hx
  rw [nxG_nat] at h4
  have h5 := outs_min hV w h4 fun c hc => hw c (by simp [hc])
  rw [outsG_st] at h5
  simp only [outsG, h2, h3, h5]
theorem cnt_pos (hV : VM N O k) : 1 ≤ cntT N O k := by
 have := hV.v.n1
 have := cls_rng (N := N) (O := O) (k := k) (s := 0) (by omega)
 omega
theorem min_vm (hV : VM N O k) : VM (minN N O k) (minO N O k) k := by
 have h1 : cntT N O k ≤ N.length := cntI_le _
 have h2 := hV.v.n2
 have h3 := cnt_pos hV
 have e1 : (minN N O k).length = cntT N O k := by simp [minN]
 have e2 : (minO N O k).length = cntT N O k := by simp [minO]
 refine ⟨⟨by omega, by omega, hV.v.k1, hV.v.k2, fun r hr => ?_⟩, by omega, fun r hr => ?_⟩
 ·obtain ⟨c, hc, rfl⟩ := List.mem_map.1 hr
  have h4 := (repC_ok (N := N) (O := O) (k := k) (List.mem_range.1 hc)).1
  have h5 := hV.v.row _ (getD_mem' h4)
  refine ⟨by rw [rowN, List.length_map]; exact h5.1, fun t ht => ?_⟩
  obtain ⟨u, hu, rfl⟩ := List.mem_map.1 ht
  have h6 := h5.2 u hu
  have h7 := cls_rng (N := N) (O := O) (k := k) (s := u.toNat) (by omega)
  rw [e1]; exact h7
 ·obtain ⟨c, hc, rfl⟩ := List.mem_map.1 hr
  have h4 := (repC_ok (N := N) (O := O) (k := k) (List.mem_range.1 hc)).1
  exact hV.orow _ (getD_mem' (by have := hV.ol; omega))
theorem minA_len : (minN N O k).length = cntT N O k := by simp [minN]
theorem TellR.min (hV : VM N O k) {s : Nat} (hs : s < N.length) {w : List Int} {b : Bool} (h : TellR N O (minN N O k) (minO N O k) s (atC (clsT N O k) s) k w b) : b = false := by
 cases b with
 | false => rfl
 | true =>
  have h1 := cls_rng (N := N) (O := O) (k := k) hs
  obtain ⟨h2, _, h3, _⟩ := h.first hV (min_vm hV) ⟨by omega, by omega⟩ ⟨h1.1, by rw [minA_len]; exact h1.2⟩
  exact absurd (outs_min hV w hs h2).symm h3
theorem TellR.cls (hV : VM N O k) {x y : Int} (hx : 0 ≤ x ∧ x < N.length) (hy : 0 ≤ y ∧ y < N.length) {w : List Int} {b : Bool} (h : TellR N O N O x y k w b) : b = false ↔ atC (clsT N O k) x.toNat = atC (clsT N O k) y.toNat := by
 rw [hV.cm.iff (by omega) (by omega)]
 have e1 : ((x.toNat : Nat) : Int) = x := by omega
 have e2 : ((y.toNat : Nat) : Int) = y := by omega
 rw [e1, e2]
 cases b with
 | false => exact ⟨fun _ => h.none hV hV hx hy, fun _ => rfl⟩
 | true =>
  obtain ⟨h2, _, h3, _⟩ := h.first hV hV hx hy
  exact ⟨fun g => (by cases g), fun g => absurd (g w h2) h3⟩
end
end Go.AM
end

section
namespace Go.AM
open Go
structure WT (T : List TN) : Prop where
 nd : (T.map (·.path)).Nodup
 bd : (T.map (·.blk)).Nodup
 pc : ∀ q z, (lkT T (q ++ [z])).isSome = true → (lkT T q).isSome = true
 ltr : ∀ t ∈ T, ∀ x ∈ t.path, 0 ≤ x ∧ x < 6
 fin : ∃ D, ∀ t ∈ T, t.path.length ≤ D
theorem ndT_of {T : List TN} (h : (T.map (·.blk)).Nodup) {t : TN} (ht : t ∈ T) : ndT T t.blk = some t := by
 induction T with
 | nil => cases ht
 | cons a r ih =>
  rw [List.map_cons, List.nodup_cons] at h
  unfold ndT
  rcases List.mem_cons.1 ht with rfl | ht
  ·simp
  ·have : a.blk ≠ t.blk := fun e => h.1 (by rw [e]; exact List.mem_map_of_mem ht)
   rw [if_neg this]
   exact ih h.2 ht
theorem ndT_none {T : List TN} {b : Nat} (h : ndT T b = none) : ∀ t ∈ T, t.blk ≠ b := by
 induction T with
 | nil => exact fun t ht => by cases ht
 | cons a r ih =>
  unfold ndT at h
  split at h
  ·cases h
  ·rename_i hne
   intro t ht
   rcases List.mem_cons.1 ht with rfl | ht
   ·exact hne
   ·exact ih h t ht
def mkT (T : List TN) (p : List Int) : Bool := match lkT T p with | some t => t.word | none => false
def dmT (T : List TN) (p : List Int) : Prop := (lkT T p).isSome = true
def ExtT (T T' : List TN) : Prop := ∀ t ∈ T, t ∈ T'
section
variable {T : List TN} {t : TN} {b x bk : Nat}
theorem kidT_none {p : List Int} (h : kidT T p x = none) : ¬ dmT T (p ++ [(x : Int)]) := by
 unfold kidT at h
 unfold dmT
 cases e : lkT T (p ++ [(x : Int)]) with
 | none => simp
 | some u => rw [e] at h; cases h
theorem addN_at (h : ndT T b = some t) : addN T b x bk = T ++ [⟨t.path ++ [(x : Int)], bk, false⟩] := by simp [addN, h]
theorem WT.add (hw : WT T) (h : ndT T b = some t) (hx : x < 6) (hn : kidT T t.path x = none) (hb : ndT T bk = none) : WT (addN T b x bk) := by
 rw [addN_at h]
 have ht := (ndT_mem h).1
 have hno : lkT T (t.path ++ [(x : Int)]) = none := by
  cases e : lkT T (t.path ++ [(x : Int)]) with
  | none => rfl
  | some u => exact absurd (show dmT T (t.path ++ [(x : Int)]) by unfold dmT; rw [e]; rfl) (kidT_none hn)
 refine ⟨?_, ?_, fun q z hq => ?_, fun u hu y hy => ?_, ?_⟩
 ·rw [List.map_append, List.nodup_append]
  refine ⟨hw.nd, by simp, fun p hp p' hp' => ?_⟩
  obtain ⟨u, hu, rfl⟩ := List.mem_map.1 hp
  simp only [List.map_cons, List.map_nil, List.mem_singleton] at hp'
  rw [hp']
  exact lkT_none hno u hu
 ·rw [List.map_append, List.nodup_append]
  refine ⟨hw.bd, by simp, fun p hp p' hp' => ?_⟩
  obtain ⟨u, hu, rfl⟩ := List.mem_map.1 hp
  simp only [List.map_cons, List.map_nil, List.mem_singleton] at hp'
  rw [hp']
  exact ndT_none hb u hu
 ·rw [lkT_append] at hq ⊢
  cases hl : lkT T (q ++ [z]) with
  | some u =>
   have := hw.pc q z (by rw [hl]; rfl)
   obtain ⟨u', e⟩ := Option.isSome_iff_exists.1 this
   rw [e]; rfl
  | none =>
   rw [hl] at hq
   simp only at hq
   split at hq
   ·rename_i e
    have e3 := List.append_inj' e rfl
    rw [← e3.1, lkT_mem hw.nd ht]; rfl
   ·cases hq
 ·rcases List.mem_append.1 hu with hu | hu
  ·exact hw.ltr u hu y hy
  ·simp only [List.mem_singleton] at hu
   subst hu
   rcases List.mem_append.1 hy with hy | hy
   ·exact hw.ltr t ht y hy
   ·simp at hy; omega
 ·obtain ⟨D, hD⟩ := hw.fin
  refine ⟨D + 1, fun u hu => ?_⟩
  rcases List.mem_append.1 hu with hu | hu
  ·have := hD u hu; omega
  ·simp only [List.mem_singleton] at hu
   subst hu
   have := hD t ht
   simp; omega
theorem ExtT.add : ExtT T (addN T b x bk) := fun u hu => by
 unfold addN
 split
 ·simp [hu]
 ·exact hu
theorem ExtT.nd {T' : List TN} (hw : WT T') (he : ExtT T T') (h : ndT T b = some t) : ndT T' b = some t := by
 obtain ⟨h1, h2⟩ := ndT_mem h
 have := ndT_of hw.bd (he t h1)
 rw [h2] at this; exact this
theorem WT.set (hw : WT T) (b : Nat) (v : Bool) : WT (setW T b v) := by
 refine ⟨by rw [setW_paths]; exact hw.nd, ?_, fun q z hq => ?_, fun u hu y hy => ?_, ?_⟩
 ·have : (setW T b v).map (·.blk) = T.map (·.blk) := by
   unfold setW
   rw [List.map_map]
   refine List.map_congr_left fun t _ => ?_
   simp only [Function.comp]
   split <;> rfl
  rw [this]; exact hw.bd
 ·rw [lkT_setW, Option.isSome_map] at hq ⊢
  exact hw.pc q z hq
 ·obtain ⟨t, ht, rfl⟩ := List.mem_map.1 hu
  refine hw.ltr t ht y ?_
  split at hy <;> exact hy
 ·obtain ⟨D, hD⟩ := hw.fin
  refine ⟨D, fun u hu => ?_⟩
  obtain ⟨t, ht, rfl⟩ := List.mem_map.1 hu
  have := hD t ht
  split <;> exact this
theorem mkT_set (hw : WT T) (h : ndT T b = some t) (p : List Int) : mkT (setW T b true) p = (mkT T p || decide (p = t.path)) := by
 obtain ⟨h1, h2⟩ := ndT_mem h
 unfold mkT
 rw [lkT_setW]
 cases e : lkT T p with
 | none =>
  have : p ≠ t.path := fun e2 => by rw [e2, lkT_mem hw.nd h1] at e; cases e
  simp [this]
 | some u =>
  obtain ⟨h3, h4⟩ := lkT_some e
  simp only [Option.map_some]
  by_cases hb : u.blk = b
  ·have : u = t := by
    have e1 := ndT_of hw.bd h3
    rw [hb, h] at e1
    exact (Option.some.inj e1).symm
   subst this
   simp [hb, ← h4]
  ·have : p ≠ t.path := fun e2 => by
    rw [e2, lkT_mem hw.nd h1] at e
    cases e
    exact hb h2
   simp [hb, this]
end
end Go.AM
end

section
namespace Go.AM
open Go
section
variable {N O : List (List Int)} {k i x : Nat} {s : Int} {q : List Int × Stp}
theorem BInv.nd (h : BInv (dlN N) s k i x q) : q.1.Nodup := by
 refine List.pairwise_iff_getElem.2 fun a b ha hb hab he => ?_
 have h1 := h.nodup a b ha hb (by simp [List.getD, ha, hb, he])
 omega
end
section
variable {N O : List (List Int)} {k : Nat}
end
end Go.AM
end

section
namespace Go.AM
open Go
theorem TellR.len {N O M Q : List (List Int)} {x y : Int} {k : Nat} {w : List Int} {ok : Bool} (hN : VM N O k) (hM : VM M Q k) (hx : 0 ≤ x ∧ x < N.length) (hy : 0 ≤ y ∧ y < M.length) (h : TellR N O M Q x y k w ok) : w.length ≤ N.length * M.length := by
 have hb : BInv (dltP N M) (x, y) k (N.length * M.length) 0 (finP N M x y k) := bfs_inv _
 have hl := pair_len hN hM hx hy hb
 rcases h with ⟨i, c, h1, _, _, _, _, rfl, _⟩ | ⟨_, rfl, _⟩
 ·have hs : (finP N M x y k).2.length = (finP N M x y k).1.length := hb.len
  have := wordOf_len hb.tree i (by omega)
  simp; omega
 ·simp
end Go.AM
end

section
namespace Go.AM
open Go
structure TrS (T : List TN) (b0 : Nat) (W : List (List Int)) : Prop where
 wt : WT T
 root : ∃ t, ndT T b0 = some t ∧ t.path = []
 mrk : ∀ p, mkT T p = decide (p ∈ W)
 dep : ∀ s ∈ T, s.path.length ≤ 10000
theorem ndT_setW {T : List TN} {b b' : Nat} {v : Bool} {t : TN} (h : ndT T b' = some t) : ∃ t', ndT (setW T b v) b' = some t' ∧ t'.path = t.path := by
 induction T with
 | nil => cases h
 | cons a r ih =>
  have e : setW (a :: r) b v = (if a.blk = b then { a with word := v } else a) :: setW r b v := rfl
  rw [e]
  unfold ndT at h ⊢
  have e2 : (if a.blk = b then { a with word := v } else a : TN).blk = a.blk := by split <;> rfl
  rw [e2]
  split at h
  ·rename_i hb
   cases h
   rw [if_pos hb]
   exact ⟨_, rfl, by split <;> rfl⟩
  ·rename_i hb
   rw [if_neg hb]
   exact ih h
theorem TrS.mark {T : List TN} {b0 b : Nat} {W : List (List Int)} {t : TN} (h : TrS T b0 W) (ht : ndT T b = some t) : TrS (setW T b true) b0 (W ++ [t.path]) := by
 refine ⟨h.wt.set b true, ?_, fun p => ?_, fun s hs => ?_⟩
 ·obtain ⟨r, h1, h2⟩ := h.root
  obtain ⟨r', h3, h4⟩ := ndT_setW (b := b) (v := true) h1
  exact ⟨r', h3, h4.trans h2⟩
 ·rw [mkT_set h.wt ht p, h.mrk p]
  rw [Bool.eq_iff_iff]
  simp [List.mem_append]
 ·obtain ⟨u, hu, rfl⟩ := List.mem_map.1 hs
  have := h.dep u hu
  split <;> exact this
theorem TrS.same {T : List TN} {b0 : Nat} {W : List (List Int)} {p : List Int} (h : TrS T b0 W) (hp : p ∈ W) : TrS T b0 (W ++ [p]) := by
 refine ⟨h.wt, h.root, fun q => ?_, h.dep⟩
 rw [h.mrk q, decide_eq_decide, List.mem_append, List.mem_singleton]
 constructor
 ·exact .inl
 ·rintro (h1 | rfl)
  ·exact h1
  ·exact hp
end Go.AM
end

section
namespace Go.AM
open Go
end Go.AM
end

section
namespace Go.AM
open Go
variable {N O : List (List Int)} {k : Nat}
theorem least {P : Nat → Prop} : ∀ n, P n → ∃ m, m ≤ n ∧ P m ∧ ∀ j, j < m → ¬ P j := by
 intro n
 induction n using Nat.strongRecOn with
 | _ n ih =>
  intro h
  by_cases e : ∃ j, j < n ∧ P j
  ·obtain ⟨j, hj, hp⟩ := e
   obtain ⟨m, h1, h2, h3⟩ := ih j hj hp
   exact ⟨m, by omega, h2, h3⟩
  ·exact ⟨n, Nat.le_refl _, h, fun j hj hp => e ⟨j, hj, hp⟩⟩
end Go.AM
end

section
namespace Go.AM
open Go
def ntf (N : List (List Int)) (s x : Nat) : Nat := (nxG N s x).toNat
variable {N O : List (List Int)} {k : Nat}
theorem ntf_lt (hV : VM N O k) {p x : Nat} (hp : p < N.length) (hx : x < k) : ntf N p x < N.length := nx_nat hV hp hx
theorem outs_cons {p x : Nat} (w : List Int) : outsG N O p ((x : Int) :: w) = outG O p x :: outsG N O (ntf N p x : Nat) w := by
 rw [ntf, outsG_st]; rfl
end Go.AM
end

section
namespace Go.AM
open Go
def oneL (N O : List (List Int)) (mg : Bool) (p q x : Nat) : Bool := decide (outG O p x ≠ outG O q x) || (mg && decide (nxG N p x = nxG N q x))
def begL (N O : List (List Int)) (mg : Bool) (D : Nat → Nat → Nat) (p q n x : Nat) : Bool := (decide (n = 1) && oneL N O mg p q x) || (decide (1 < n) && decide (D (ntf N p x) (ntf N q x) = n - 1))
def letL (N O : List (List Int)) (mg : Bool) (k : Nat) (D : Nat → Nat → Nat) (p q n : Nat) : Option Nat := (List.range k).find? (begL N O mg D p q n)
def ltI (o : Option Nat) : Int := match o with | some x => x | none => -1
def dst (N O : List (List Int)) (mg : Bool) (k : Nat) : Nat → Nat → Nat → Nat
 | 0, _, _ => 0
 | n + 1, p, q => if dst N O mg k n p q = 0 ∧ (p < N.length ∧ q < N.length ∧ p ≠ q) ∧ (letL N O mg k (dst N O mg k n) p q (n + 1)).isSome = true then n + 1 else dst N O mg k n p q
structure TabOk (N O : List (List Int)) (mg : Bool) (k : Nat) (D : Nat → Nat → Nat) : Prop where
 sym : ∀ p q, D p q = D q p
 rng : ∀ p q, D p q ≠ 0 → p < N.length ∧ q < N.length ∧ p ≠ q
 some : ∀ p q m, D p q = m + 1 → (letL N O mg k D p q (m + 1)).isSome = true
 done : ∀ p q, p < N.length → q < N.length → p ≠ q → D p q = 0 → ∀ m, letL N O mg k D p q (m + 1) = none
 least : ∀ p q m, D p q = m + 1 → ∀ j, j < m → letL N O mg k D p q (j + 1) = none
variable {N O : List (List Int)} {mg : Bool} {k : Nat}
theorem letL_some {D : Nat → Nat → Nat} {p q n x : Nat} (h : letL N O mg k D p q n = some x) : x < k ∧ begL N O mg D p q n x = true ∧ ∀ y, y < x → begL N O mg D p q n y = false := by
 unfold letL at h
 rw [List.find?_range_eq_some] at h
 obtain ⟨h1, h2, h3⟩ := h
 exact ⟨by simpa using h2, h1, fun y hy => by simpa using h3 y hy⟩
theorem letL_none {D : Nat → Nat → Nat} {p q n : Nat} : letL N O mg k D p q n = none ↔ ∀ x, x < k → begL N O mg D p q n x = false := by
 unfold letL
 rw [List.find?_eq_none]
 simp
theorem letL_congr {D D' : Nat → Nat → Nat} {p q n : Nat} (h : ∀ x, x < k → begL N O mg D p q n x = begL N O mg D' p q n x) : letL N O mg k D p q n = letL N O mg k D' p q n := by
 unfold letL
 refine find_congr fun x hx => h x (by simpa using hx)
theorem oneL_comm (p q x : Nat) : oneL N O mg p q x = oneL N O mg q p x := by
 unfold oneL
 congr 1
 ·exact decide_eq_decide.2 ⟨fun h e => h e.symm, fun h e => h e.symm⟩
 ·congr 1
  exact decide_eq_decide.2 ⟨Eq.symm, Eq.symm⟩
theorem begL_comm {D : Nat → Nat → Nat} (h : ∀ p q, D p q = D q p) (p q n x : Nat) : begL N O mg D p q n x = begL N O mg D q p n x := by
 unfold begL
 rw [oneL_comm, h]
theorem dst_sym : ∀ n p q, dst N O mg k n p q = dst N O mg k n q p
 | 0, _, _ => rfl
 | n + 1, p, q => by
  have e : letL N O mg k (dst N O mg k n) p q (n + 1) = letL N O mg k (dst N O mg k n) q p (n + 1) := by
   unfold letL
   exact find_congr fun x _ => begL_comm (dst_sym n) p q (n + 1) x
  unfold dst
  rw [dst_sym n p q, e]
  by_cases h : dst N O mg k n q p = 0 ∧ (p < N.length ∧ q < N.length ∧ p ≠ q) ∧ (letL N O mg k (dst N O mg k n) q p (n + 1)).isSome = true
  ·rw [if_pos h, if_pos ⟨h.1, ⟨h.2.1.2.1, h.2.1.1, Ne.symm h.2.1.2.2⟩, h.2.2⟩]
  ·rw [if_neg h, if_neg fun g => h ⟨g.1, ⟨g.2.1.2.1, g.2.1.1, Ne.symm g.2.1.2.2⟩, g.2.2⟩]
theorem dst_le : ∀ n p q, dst N O mg k n p q ≤ n
 | 0, _, _ => Nat.le_refl _
 | n + 1, p, q => by
  unfold dst
  split
  ·exact Nat.le_refl _
  ·exact Nat.le_succ_of_le (dst_le n p q)
theorem dst_step (n p q : Nat) : dst N O mg k (n + 1) p q = dst N O mg k n p q ∨ (dst N O mg k (n + 1) p q = n + 1 ∧ dst N O mg k n p q = 0) := by
 conv => lhs; lhs; unfold dst
 conv => rhs; lhs; lhs; unfold dst
 split
 ·rename_i h; exact .inr ⟨rfl, h.1⟩
 ·exact .inl rfl
theorem dst_keep {n p q : Nat} (h : dst N O mg k n p q ≠ 0) : ∀ d, dst N O mg k (n + d) p q = dst N O mg k n p q
 | 0 => rfl
 | d + 1 => by
  rw [← Nat.add_assoc]
  rcases dst_step (N := N) (O := O) (mg := mg) (k := k) (n + d) p q with e | ⟨_, e⟩
  ·rw [e, dst_keep h d]
  ·rw [dst_keep h d] at e; exact absurd e h
theorem begL_late {n m : Nat} (hm : 0 < m) (hmn : m ≤ n + 1) {T : Nat → Nat → Nat} (hT : ∀ a b, T a b = dst N O mg k n a b ∨ (n < T a b ∧ dst N O mg k n a b = 0)) (p q x : Nat) : begL N O mg T p q m x = begL N O mg (dst N O mg k n) p q m x := by
 unfold begL
 congr 1
 by_cases h : 1 < m
 ·simp only [h, decide_true, Bool.true_and]
  refine decide_eq_decide.2 ?_
  rcases hT (ntf N p x) (ntf N q x) with e | ⟨e1, e2⟩
  ·rw [e]
  ·constructor <;> intro g <;> omega
 ·simp [h]
theorem dst_from (n d a b : Nat) : dst N O mg k (n + d) a b = dst N O mg k n a b ∨ (n < dst N O mg k (n + d) a b ∧ dst N O mg k n a b = 0) := by
 induction d with
 | zero => exact .inl rfl
 | succ d ih =>
  rw [← Nat.add_assoc]
  rcases dst_step (N := N) (O := O) (mg := mg) (k := k) (n + d) a b with e | ⟨e1, e2⟩
  ·rw [e]; exact ih
  ·rcases ih with h | h
   ·rw [e2] at h
    exact .inr ⟨by omega, h.symm⟩
   ·exact .inr ⟨by omega, h.2⟩
theorem letL_late {n m d : Nat} (hm : 0 < m) (hmn : m ≤ n + 1) (p q : Nat) : letL N O mg k (dst N O mg k (n + d)) p q m = letL N O mg k (dst N O mg k n) p q m :=
 letL_congr fun x _ => begL_late hm hmn (fun a b => dst_from n d a b) p q x
theorem dst_rng : ∀ n p q, dst N O mg k n p q ≠ 0 → p < N.length ∧ q < N.length ∧ p ≠ q
 | 0, _, _, h => absurd rfl h
 | n + 1, p, q, h => by
  unfold dst at h
  split at h
  ·rename_i g; exact g.2.1
  ·exact dst_rng n p q h
theorem dst_set : ∀ n p q m, dst N O mg k n p q = m + 1 → m < n ∧ dst N O mg k m p q = 0 ∧ (letL N O mg k (dst N O mg k m) p q (m + 1)).isSome = true
 | 0, _, _, _, h => by cases h
 | n + 1, p, q, m, h => by
  unfold dst at h
  split at h
  ·rename_i g
   obtain rfl : m = n := by omega
   exact ⟨by omega, g.1, g.2.2⟩
  ·obtain ⟨h1, h2⟩ := dst_set n p q m h
   exact ⟨by omega, h2⟩
theorem dst_ok {n : Nat} (h : ∀ p q, dst N O mg k (n + 1) p q = dst N O mg k n p q) : TabOk N O mg k (dst N O mg k n) := by
 refine ⟨dst_sym n, dst_rng n, fun p q m hm => ?_, fun p q hp hq hpq h0 m => ?_, fun p q m hm j hj => ?_⟩
 ·obtain ⟨h1, h2, h3⟩ := dst_set n p q m hm
  have := letL_late (N := N) (O := O) (mg := mg) (k := k) (n := m) (m := m + 1) (d := n - m) (by omega) (by omega) p q
  rw [show m + (n - m) = n by omega] at this
  rw [this]; exact h3
 ·by_cases hmn : m ≤ n
  ·-- in round m + 1 no letter was there
   have e0 : dst N O mg k m p q = 0 := by
    refine Classical.byContradiction fun g => ?_
    have := dst_keep g (n - m)
    rw [show m + (n - m) = n by omega, h0] at this
    omega
   have e1 : dst N O mg k (m + 1) p q = 0 := by
    by_cases e : m = n
    ·rw [e, h]; exact h0
    ·refine Classical.byContradiction fun g => ?_
     have := dst_keep g (n - (m + 1))
     rw [show m + 1 + (n - (m + 1)) = n by omega, h0] at this
     omega
   have := letL_late (N := N) (O := O) (mg := mg) (k := k) (n := m) (m := m + 1) (d := n - m) (by omega) (by omega) p q
   rw [show m + (n - m) = n by omega] at this
   rw [this]
   cases hs : letL N O mg k (dst N O mg k m) p q (m + 1) with
   | none => rfl
   | some x =>
    unfold dst at e1
    rw [if_pos ⟨e0, ⟨hp, hq, hpq⟩, by rw [hs]; rfl⟩] at e1
    cases e1
  ·refine letL_none.2 fun x _ => ?_
   unfold begL
   have := dst_le (N := N) (O := O) (mg := mg) (k := k) n (ntf N p x) (ntf N q x)
   have h1 : ¬ m + 1 = 1 := by omega
   have h2 : ¬ dst N O mg k n (ntf N p x) (ntf N q x) = m + 1 - 1 := by omega
   simp [h1, h2]
   omega
 ·obtain ⟨h1, h2, _⟩ := dst_set n p q m hm
  have e0 : ∀ i, i ≤ m → dst N O mg k i p q = 0 := fun i hi => by
   refine Classical.byContradiction fun g => ?_
   have := dst_keep g (m - i)
   rw [show i + (m - i) = m by omega, h2] at this
   omega
  have hne : dst N O mg k n p q ≠ 0 := by omega
  obtain ⟨hp, hq, hpq⟩ := dst_rng n p q hne
  have := letL_late (N := N) (O := O) (mg := mg) (k := k) (n := j) (m := j + 1) (d := n - j) (by omega) (by omega) p q
  rw [show j + (n - j) = n by omega] at this
  rw [this]
  cases hs : letL N O mg k (dst N O mg k j) p q (j + 1) with
  | none => rfl
  | some x =>
   have e1 := e0 (j + 1) (by omega)
   unfold dst at e1
   rw [if_pos ⟨e0 j (by omega), ⟨hp, hq, hpq⟩, by rw [hs]; rfl⟩] at e1
   cases e1
def wrdL (N O : List (List Int)) (mg : Bool) (k : Nat) (D : Nat → Nat → Nat) : Nat → Nat → Nat → List Int
 | 0, _, _ => []
 | m + 1, p, q => match letL N O mg k D p q (m + 1) with
  | some x => (x : Int) :: wrdL N O mg k D m (ntf N p x) (ntf N q x)
  | none => []
def decW (N O : List (List Int)) (mg : Bool) (p q : Nat) (w : List Int) : Prop := outsG N O p w ≠ outsG N O q w ∨ (mg = true ∧ leadG N p w = leadG N q w)
section
variable (hV : VM N O k)
include hV
theorem ntf_cast {p x : Nat} (hp : p < N.length) (hx : x < k) : ((ntf N p x : Nat) : Int) = nxG N p x := by
 have := hV.nx (s := (p : Int)) (c := x) (by omega) (by omega) hx
 rw [ntf]; omega
theorem dec_cons {p q x : Nat} (hp : p < N.length) (hq : q < N.length) (hx : x < k) {w : List Int} : decW N O mg p q ((x : Int) :: w) ↔ outG O p x ≠ outG O q x ∨ decW N O mg (ntf N p x) (ntf N q x) w := by
 have e1 : leadG N p ((x : Int) :: w) = leadG N (ntf N p x : Nat) w := by rw [ntf_cast hV hp hx]; rfl
 have e2 : leadG N q ((x : Int) :: w) = leadG N (ntf N q x : Nat) w := by rw [ntf_cast hV hq hx]; rfl
 unfold decW
 rw [outs_cons, outs_cons, e1, e2]
 constructor
 ·rintro (h | h)
  ·by_cases e : outG O p x = outG O q x
   ·exact .inr (.inl fun g => h (by rw [e, g]))
   ·exact .inl e
  ·exact .inr (.inr h)
 ·rintro (h | h | h)
  ·exact .inl fun g => h (List.cons.inj g).1
  ·exact .inl fun g => h (List.cons.inj g).2
  ·exact .inr h
theorem one_dec {p q x : Nat} (hp : p < N.length) (hq : q < N.length) (hx : x < k) : oneL N O mg p q x = true ↔ decW N O mg p q [(x : Int)] := by
 rw [dec_cons hV hp hq hx]
 unfold oneL decW
 have e1 := ntf_cast hV hp hx
 have e2 := ntf_cast hV hq hx
 simp only [Bool.or_eq_true, decide_eq_true_eq, Bool.and_eq_true, outsG, leadG, ne_eq, not_true_eq_false, false_or, ← e1, ← e2]
theorem wrd_ok {D : Nat → Nat → Nat} (hD : TabOk N O mg k D) : ∀ m p q, D p q = m + 1 → (wrdL N O mg k D (m + 1) p q).length = m + 1 ∧ (∀ c ∈ wrdL N O mg k D (m + 1) p q, 0 ≤ c ∧ c < k) ∧ decW N O mg p q (wrdL N O mg k D (m + 1) p q) := by
 intro m
 induction m with
 | zero =>
  intro p q h
  obtain ⟨x, hx⟩ := Option.isSome_iff_exists.1 (hD.some p q 0 h)
  obtain ⟨h1, h2, _⟩ := letL_some hx
  obtain ⟨hp, hq, _⟩ := hD.rng p q (by omega)
  have e : wrdL N O mg k D (0 + 1) p q = [(x : Int)] := by simp only [wrdL]; rw [hx]
  rw [e]
  have h2 : oneL N O mg p q x = true := by simpa [begL] using h2
  exact ⟨rfl, fun c hc => by simp at hc; omega, (one_dec hV hp hq h1).1 h2⟩
 | succ m ih =>
  intro p q h
  obtain ⟨x, hx⟩ := Option.isSome_iff_exists.1 (hD.some p q (m + 1) h)
  obtain ⟨h1, h2, _⟩ := letL_some hx
  obtain ⟨hp, hq, _⟩ := hD.rng p q (by omega)
  have h2 : D (ntf N p x) (ntf N q x) = m + 1 := by simpa [begL] using h2
  obtain ⟨i1, i2, i3⟩ := ih _ _ h2
  have e : wrdL N O mg k D (m + 1 + 1) p q = (x : Int) :: wrdL N O mg k D (m + 1) (ntf N p x) (ntf N q x) := by
   conv => lhs; unfold wrdL
   rw [hx]
  rw [e]
  refine ⟨by simp [i1], fun c hc => ?_, (dec_cons hV hp hq h1).2 (.inr i3)⟩
  rcases List.mem_cons.1 hc with rfl | hc
  ·omega
  ·exact i2 c hc
theorem dec_step {D : Nat → Nat → Nat} (hD : TabOk N O mg k D) {p q x : Nat} (hp : p < N.length) (hq : q < N.length) (hpq : p ≠ q) (hx : x < k) {w : List Int} (h : decW N O mg p q ((x : Int) :: w))
  (ih : ∀ p q, p < N.length → q < N.length → p ≠ q → decW N O mg p q w → D p q ≠ 0 ∧ D p q ≤ w.length) : ∃ m, D p q = m + 1 ∧ m ≤ w.length ∧ ((oneL N O mg p q x = true ∧ m = 0) ∨ (oneL N O mg p q x = false ∧ decW N O mg (ntf N p x) (ntf N q x) w ∧ D (ntf N p x) (ntf N q x) ≠ 0 ∧ m ≤ D (ntf N p x) (ntf N q x) ∧ D (ntf N p x) (ntf N q x) ≤ w.length)) := by
 by_cases h1 : oneL N O mg p q x = true
 ·have hs : letL N O mg k D p q 1 ≠ none := fun e => by
   have := letL_none.1 e x hx
   simp [begL, h1] at this
  have h0 : D p q ≠ 0 := fun e => hs (hD.done p q hp hq hpq e 0)
  refine ⟨D p q - 1, by omega, ?_, .inl ⟨h1, ?_⟩⟩
  all_goals
   have : ¬ 0 < D p q - 1 := fun g => hs (hD.least p q (D p q - 1) (by omega) 0 g)
   omega
 ·have h1 : oneL N O mg p q x = false := by simpa using h1
  have ho : outG O p x = outG O q x := by
   simp [oneL] at h1; exact h1.1
  have hd := ((dec_cons hV hp hq hx).1 h).resolve_left fun g => g ho
  have hne : ntf N p x ≠ ntf N q x := fun e => by
   rw [e] at hd
   rcases hd with hd | ⟨hm, _⟩
   ·exact hd rfl
   ·have e1 := ntf_cast hV hp hx
    have e2 := ntf_cast hV hq hx
    simp [oneL, hm] at h1
    exact h1.2 (by rw [← e1, ← e2, e])
  obtain ⟨i1, i2⟩ := ih _ _ (ntf_lt hV hp hx) (ntf_lt hV hq hx) hne hd
  have hs : letL N O mg k D p q (D (ntf N p x) (ntf N q x) + 1) ≠ none := fun e => by
   have := letL_none.1 e x hx
   simp [begL] at this
   omega
  have h0 : D p q ≠ 0 := fun e => hs (hD.done p q hp hq hpq e _)
  have h2 : D p q - 1 ≤ D (ntf N p x) (ntf N q x) := by
   refine Classical.byContradiction fun g => ?_
   exact hs (hD.least p q (D p q - 1) (by omega) _ (by omega))
  exact ⟨D p q - 1, by omega, by omega, .inr ⟨h1, hd, i1, h2, i2⟩⟩
theorem dec_some {D : Nat → Nat → Nat} (hD : TabOk N O mg k D) : ∀ (w : List Int) (p q : Nat), p < N.length → q < N.length → p ≠ q → (∀ c ∈ w, 0 ≤ c ∧ c < k) → decW N O mg p q w → D p q ≠ 0 ∧ D p q ≤ w.length
 | [], p, q, _, _, hpq, _, h => by
  rcases h with h | ⟨_, h⟩
  ·exact absurd rfl h
  ·have h : (p : Int) = (q : Int) := h
   omega
 | c :: w, p, q, hp, hq, hpq, hw, h => by
  obtain ⟨x, rfl⟩ : ∃ x : Nat, c = x := ⟨c.toNat, by have := hw c (by simp); omega⟩
  have hx : x < k := by have := hw x (by simp); omega
  obtain ⟨m, h1, h2, _⟩ := dec_step hV hD hp hq hpq hx h fun p q hp hq hpq hd => dec_some hD w p q hp hq hpq (fun c hc => hw c (by simp [hc])) hd
  rw [List.length_cons]
  omega
theorem wrd_first {D : Nat → Nat → Nat} (hD : TabOk N O mg k D) : ∀ (w : List Int) (p q : Nat), p < N.length → q < N.length → p ≠ q → (∀ c ∈ w, 0 ≤ c ∧ c < k) → decW N O mg p q w → w.length = D p q → w = wrdL N O mg k D (D p q) p q ∨ lexB (wrdL N O mg k D (D p q) p q) w = true
 | [], p, q, _, _, hpq, _, h, _ => by
  rcases h with h | ⟨_, h⟩
  ·exact absurd rfl h
  ·have h : (p : Int) = (q : Int) := h
   omega
 | c :: w, p, q, hp, hq, hpq, hw, h, hl => by
  obtain ⟨x, rfl⟩ : ∃ x : Nat, c = x := ⟨c.toNat, by have := hw c (by simp); omega⟩
  have hx : x < k := by have := hw x (by simp); omega
  have hw' : ∀ c ∈ w, 0 ≤ c ∧ c < k := fun c hc => hw c (by simp [hc])
  obtain ⟨m, h1, h2, h3⟩ := dec_step hV hD hp hq hpq hx h fun p q hp hq hpq hd => dec_some hV hD w p q hp hq hpq hw' hd
  rw [List.length_cons] at hl
  have hml : w.length = m := by omega
  obtain ⟨y, hy⟩ := Option.isSome_iff_exists.1 (hD.some p q m h1)
  obtain ⟨y1, y2, y3⟩ := letL_some hy
  have hbx : begL N O mg D p q (m + 1) x = true := by
   rcases h3 with ⟨g1, g2⟩ | ⟨g1, g2, g3, g4, g5⟩
   ·subst g2; simp [begL, g1]
   ·simp [begL]
    exact .inr ⟨by omega, by omega⟩
  have hyx : y ≤ x := by
   refine Nat.le_of_not_lt fun g => ?_
   rw [y3 x g] at hbx; cases hbx
  have e : wrdL N O mg k D (m + 1) p q = (y : Int) :: wrdL N O mg k D m (ntf N p y) (ntf N q y) := by
   conv => lhs; unfold wrdL
   rw [hy]
  rw [h1, e]
  by_cases hlt : y < x
  ·refine .inr ?_
   unfold lexB
   have h5 : ¬ (y : Int) = (x : Int) := by omega
   simp [h5]
   omega
  ·obtain rfl : y = x := by omega
   rcases h3 with ⟨g1, g2⟩ | ⟨g1, g2, g3, g4, g5⟩
   ·subst g2
    have : w = [] := List.length_eq_zero_iff.1 hml
    subst this
    exact .inl rfl
   ·have hD' : D (ntf N p y) (ntf N q y) = m := by omega
    obtain ⟨r1, r2, r3⟩ := hD.rng _ _ g3
    rcases wrd_first hD w _ _ r1 r2 r3 hw' g2 (by omega) with h6 | h6
    ·rw [hD'] at h6
     exact .inl (by rw [← h6])
    ·rw [hD'] at h6
     refine .inr ?_
     unfold lexB
     simp [h6]
theorem tab_pairs {D : Nat → Nat → Nat} (hD : TabOk N O mg k D) {p q : Nat} : D p q ≤ N.length * (N.length - 1) / 2 := by
 -- every smaller number is met
 have hall : ∀ d m p q, D p q = m + 1 + d → ∃ p' q', D p' q' = m + 1 := by
  intro d
  induction d with
  | zero => intro m p q h; exact ⟨p, q, h⟩
  | succ d ih =>
   intro m p q h
   obtain ⟨x, hx⟩ := Option.isSome_iff_exists.1 (hD.some p q (m + 1 + d) (by omega))
   obtain ⟨_, h2, _⟩ := letL_some hx
   simp [begL] at h2
   exact ih m (ntf N p x) (ntf N q x) (by omega)
 generalize hm : D p q = M
 have hex : ∀ j, ∃ ab : Nat × Nat, j < M → D ab.1 ab.2 = j + 1 ∧ ab.2 < ab.1 := fun j => by
  by_cases hj : j < M
  ·obtain ⟨p', q', h⟩ := hall (M - (j + 1)) j p q (by omega)
   obtain ⟨_, _, hne⟩ := hD.rng p' q' (by omega)
   rcases Nat.lt_or_ge q' p' with hlt | hge
   ·exact ⟨(p', q'), fun _ => ⟨h, hlt⟩⟩
   ·exact ⟨(q', p'), fun _ => ⟨by rw [hD.sym]; exact h, by simp only; omega⟩⟩
  ·exact ⟨(0, 0), fun h => absurd h hj⟩
 have tri : ∀ a : Nat, a * (a - 1) / 2 + a = (a + 1) * a / 2 := fun a => by
  have : (a + 1) * a = a * (a - 1) + a * 2 := by
   cases a with
   | zero => rfl
   | succ a => simp only [Nat.add_sub_cancel, Nat.add_mul, Nat.mul_add]; omega
  rw [this, Nat.add_mul_div_right _ _ (by omega)]
 have trim : ∀ a b : Nat, a ≤ b → a * (a - 1) / 2 ≤ b * (b - 1) / 2 := fun a b h => Nat.div_le_div_right (Nat.mul_le_mul h (by omega))
 refine pigeon _ M (fun j => (hex j).choose.1 * ((hex j).choose.1 - 1) / 2 + (hex j).choose.2) (fun j hj => ?_) (fun j j' hj hj' e => ?_)
 ·obtain ⟨h1, h2⟩ := (hex j).choose_spec hj
  obtain ⟨h3, _, _⟩ := hD.rng _ _ (show D (hex j).choose.1 (hex j).choose.2 ≠ 0 by omega)
  show _ + _ < _
  have t1 := tri (hex j).choose.1
  have t2 := trim ((hex j).choose.1 + 1) N.length h3
  rw [Nat.add_sub_cancel] at t2
  omega
 ·obtain ⟨h1, h2⟩ := (hex j).choose_spec hj
  obtain ⟨h1', h2'⟩ := (hex j').choose_spec hj'
  generalize (hex j).choose = ab at *
  generalize (hex j').choose = cd at *
  obtain ⟨a, b⟩ := ab
  obtain ⟨c, d⟩ := cd
  simp only at *
  have t1 := tri a
  have t2 := tri c
  have hac : a = c := by
   rcases Nat.lt_trichotomy a c with h | h | h
   ·have t3 := trim (a + 1) c h
    rw [Nat.add_sub_cancel] at t3
    omega
   ·exact h
   ·have t3 := trim (c + 1) a h
    rw [Nat.add_sub_cancel] at t3
    omega
  subst hac
  have hbd : b = d := by omega
  subst hbd
  omega
end
end Go.AM
end

section
namespace Go.AM
open Go
variable {N O : List (List Int)} {mg : Bool} {k : Nat}
def tin (N O : List (List Int)) (mg : Bool) (k r p q : Nat) : Nat → Nat → Nat := fun a b => if (b < a ∧ (a < p ∨ (a = p ∧ b < q))) ∨ (a < b ∧ (b < p ∨ (b = p ∧ a < q))) then dst N O mg k (r + 1) a b else dst N O mg k r a b
def chg (N O : List (List Int)) (mg : Bool) (k r a b : Nat) : Bool := decide (dst N O mg k (r + 1) a b ≠ dst N O mg k r a b)
def mrow (N O : List (List Int)) (mg : Bool) (k r p : Nat) : Nat → Bool
 | 0 => false
 | q + 1 => mrow N O mg k r p q || chg N O mg k r p q
def mall (N O : List (List Int)) (mg : Bool) (k r : Nat) : Nat → Bool
 | 0 => false
 | p + 1 => mall N O mg k r p || mrow N O mg k r p p
def cz (N O : List (List Int)) (mg : Bool) (k r : Nat) : Nat := (List.range 3600).countP fun i => decide (dst N O mg k r (i / 60) (i % 60) ≠ 0)
theorem mrow_false {r p : Nat} : ∀ {q : Nat}, mrow N O mg k r p q = false → ∀ b, b < q → chg N O mg k r p b = false
 | 0, _, b, h => by omega
 | q + 1, h, b, hb => by
  simp only [mrow, Bool.or_eq_false_iff] at h
  by_cases e : b = q
  ·rw [e]; exact h.2
  ·exact mrow_false h.1 b (by omega)
theorem mall_false {r : Nat} : ∀ {p : Nat}, mall N O mg k r p = false → ∀ a b, a < p → b < a → chg N O mg k r a b = false
 | 0, _, a, b, h, _ => by omega
 | p + 1, h, a, b, ha, hb => by
  simp only [mall, Bool.or_eq_false_iff] at h
  by_cases e : a = p
  ·subst e; exact mrow_false h.2 b hb
  ·exact mall_false h.1 a b (by omega) hb
theorem mrow_true {r p : Nat} : ∀ {q : Nat}, mrow N O mg k r p q = true → ∃ b, b < q ∧ chg N O mg k r p b = true
 | 0, h => by cases h
 | q + 1, h => by
  simp only [mrow, Bool.or_eq_true] at h
  rcases h with h | h
  ·obtain ⟨b, h1, h2⟩ := mrow_true h; exact ⟨b, by omega, h2⟩
  ·exact ⟨q, by omega, h⟩
theorem mall_true {r : Nat} : ∀ {p : Nat}, mall N O mg k r p = true → ∃ a b, a < p ∧ b < a ∧ chg N O mg k r a b = true
 | 0, h => by cases h
 | p + 1, h => by
  simp only [mall, Bool.or_eq_true] at h
  rcases h with h | h
  ·obtain ⟨a, b, h1, h2, h3⟩ := mall_true h; exact ⟨a, b, by omega, h2, h3⟩
  ·obtain ⟨b, h1, h2⟩ := mrow_true h; exact ⟨p, b, by omega, h1, h2⟩
theorem countP_lt {p q : Nat → Bool} : ∀ {l : List Nat}, (∀ x ∈ l, p x = true → q x = true) → (∃ x ∈ l, q x = true ∧ p x = false) → l.countP p < l.countP q
 | [], _, h => by obtain ⟨x, h, _⟩ := h; simp at h
 | y :: l, h1, h2 => by
  have hm : l.countP p ≤ l.countP q := List.countP_mono_left fun x hx => h1 x (by simp [hx])
  rw [List.countP_cons, List.countP_cons]
  obtain ⟨x, hx, hq, hp⟩ := h2
  rcases List.mem_cons.1 hx with rfl | hx
  ·rw [hq, hp]; simp; omega
  ·have ih := countP_lt (p := p) (q := q) (l := l) (fun x hx => h1 x (by simp [hx])) ⟨x, hx, hq, hp⟩
   cases e : p y with
   | false => simp; split <;> omega
   | true => rw [h1 y (by simp) e]; simp; omega
theorem cz_le (r : Nat) : cz N O mg k r ≤ 3600 := by
 have := List.countP_le_length (p := fun i => decide (dst N O mg k r (i / 60) (i % 60) ≠ 0)) (l := List.range 3600)
 rw [List.length_range] at this
 exact this
theorem cz_lt {r : Nat} (hN : N.length ≤ 60) (h : mall N O mg k r N.length = true) : cz N O mg k r < cz N O mg k (r + 1) := by
 obtain ⟨a, b, h1, h2, h3⟩ := mall_true h
 have h3 := of_decide_eq_true h3
 have hs := dst_step (N := N) (O := O) (mg := mg) (k := k) r a b
 refine countP_lt (fun x _ hx => ?_) ⟨a * 60 + b, by rw [List.mem_range]; omega, ?_, ?_⟩
 ·have hx := of_decide_eq_true hx
  have := dst_keep hx 1
  exact decide_eq_true (by rw [this]; exact hx)
 ·rw [show (a * 60 + b) / 60 = a by omega, show (a * 60 + b) % 60 = b by omega]
  exact decide_eq_true (by omega)
 ·rw [show (a * 60 + b) / 60 = a by omega, show (a * 60 + b) % 60 = b by omega]
  exact decide_eq_false (by omega)
theorem mall_ok {r : Nat} (h : mall N O mg k r N.length = false) : TabOk N O mg k (dst N O mg k (r + 1)) := by
 have he : ∀ p q, dst N O mg k (r + 1) p q = dst N O mg k r p q := fun p q => by
  have hs := dst_step (N := N) (O := O) (mg := mg) (k := k) r p q
  rcases hs with hs | hs
  ·exact hs
  ·obtain ⟨h1, h2, h3⟩ := dst_rng (r + 1) p q (by rw [hs.1]; omega)
   rcases Nat.lt_or_ge q p with hlt | hge
   ·have := of_decide_eq_false (mall_false h p q h1 hlt)
    exact Classical.not_not.1 this
   ·have := of_decide_eq_false (mall_false h q p h2 (by omega))
    rw [dst_sym (r + 1) p q, dst_sym r p q]
    exact Classical.not_not.1 this
 have : dst N O mg k (r + 1) = dst N O mg k r := funext fun p => funext fun q => he p q
 rw [this]
 exact dst_ok he
def updD (D : Nat → Nat → Nat) (a b n : Nat) : Nat → Nat → Nat := fun a' b' => if a' = a ∧ b' = b then n else D a' b'
theorem tin_at {r p q : Nat} : tin N O mg k r p q p q = dst N O mg k r p q := by
 unfold tin; rw [if_neg (by omega)]
theorem tin_zero {r a b : Nat} : tin N O mg k r 0 0 a b = dst N O mg k r a b := by unfold tin; rw [if_neg (by omega)]
theorem tin_row {r p a b : Nat} : tin N O mg k r p p a b = tin N O mg k r (p + 1) 0 a b := by
 unfold tin
 by_cases h : (b < a ∧ (a < p ∨ (a = p ∧ b < p))) ∨ (a < b ∧ (b < p ∨ (b = p ∧ a < p)))
 ·rw [if_pos h, if_pos (by omega)]
 ·rw [if_neg h, if_neg (by omega)]
theorem tin_end {r a b : Nat} (hr : True) : tin N O mg k r N.length 0 a b = dst N O mg k (r + 1) a b := by
 unfold tin
 split
 ·rfl
 ·rename_i h
  rcases dst_step (N := N) (O := O) (mg := mg) (k := k) r a b with e | ⟨e, _⟩
  ·exact e.symm
  ·obtain ⟨h1, h2, h3⟩ := dst_rng (r + 1) a b (by rw [e]; omega)
   omega
theorem tin_late {r p q : Nat} : ∀ a b, tin N O mg k r p q a b = dst N O mg k r a b ∨ (r < tin N O mg k r p q a b ∧ dst N O mg k r a b = 0) := fun a b => by
 unfold tin
 split
 ·rcases dst_step (N := N) (O := O) (mg := mg) (k := k) r a b with e | ⟨e, h⟩
  ·exact .inl e
  ·exact .inr ⟨by omega, h⟩
 ·exact .inl rfl
theorem tin_let {r p q p' q' : Nat} : letL N O mg k (tin N O mg k r p q) p' q' (r + 1) = letL N O mg k (dst N O mg k r) p' q' (r + 1) :=
 letL_congr fun x _ => begL_late (by omega) (Nat.le_refl _) tin_late p' q' x
theorem tin_keep {r p q : Nat} (h : chg N O mg k r p q = false) (hqp : q < p) (a b : Nat) : tin N O mg k r p (q + 1) a b = tin N O mg k r p q a b := by
 have hc : dst N O mg k (r + 1) p q = dst N O mg k r p q := Classical.not_not.1 (of_decide_eq_false h)
 unfold tin
 by_cases e : (a = p ∧ b = q) ∨ (a = q ∧ b = p)
 ·rcases e with ⟨rfl, rfl⟩ | ⟨rfl, rfl⟩
  ·rw [if_pos (by omega), if_neg (by omega), hc]
  ·rw [if_pos (by omega), if_neg (by omega), dst_sym, hc, dst_sym]
 ·by_cases h : (b < a ∧ (a < p ∨ (a = p ∧ b < q))) ∨ (a < b ∧ (b < p ∨ (b = p ∧ a < q)))
  ·rw [if_pos h, if_pos (by omega)]
  ·rw [if_neg h, if_neg (by omega)]
theorem tin_set {r p q : Nat} (h : dst N O mg k (r + 1) p q = r + 1) (hqp : q < p) (a b : Nat) : updD (updD (tin N O mg k r p q) p q (r + 1)) q p (r + 1) a b = tin N O mg k r p (q + 1) a b := by
 unfold updD
 by_cases e : a = q ∧ b = p
 ·rw [if_pos e]
  obtain ⟨rfl, rfl⟩ := e
  unfold tin
  rw [if_pos (by omega), dst_sym, h]
 ·rw [if_neg e]
  by_cases e2 : a = p ∧ b = q
  ·rw [if_pos e2]
   obtain ⟨rfl, rfl⟩ := e2
   unfold tin
   rw [if_pos (by omega), h]
  ·rw [if_neg e2]
   unfold tin
   by_cases h : (b < a ∧ (a < p ∨ (a = p ∧ b < q))) ∨ (a < b ∧ (b < p ∨ (b = p ∧ a < q)))
   ·rw [if_pos h, if_pos (by omega)]
   ·rw [if_neg h, if_neg (by omega)]
end Go.AM
end

section
namespace Go.AM
open Go
variable {N O : List (List Int)} {k : Nat}
def outK (N O : List (List Int)) (w : List Int) (s : Nat) : List Int := outsG N O s w
def endK (N O : List (List Int)) (w : List Int) (s : Nat) : List Int × Int := (outsG N O s w, leadG N s w)
def cO (N O : List (List Int)) (w : List Int) : Nat := cntF (keyE (outK N O w)) N.length
def cE (N O : List (List Int)) (w : List Int) : Nat := cntF (keyE (endK N O w)) N.length
theorem outs_app (w v : List Int) (s : Int) : outsG N O s (w ++ v) = outsG N O s w ++ outsG N O (leadG N s w) v := outsG_append N O w s v
theorem outK_of {w v : List Int} {s t : Nat} (h : outK N O (w ++ v) s = outK N O (w ++ v) t) : outK N O w s = outK N O w t ∧ outsG N O (leadG N s w) v = outsG N O (leadG N t w) v := by
 unfold outK at *
 rw [outs_app, outs_app] at h
 exact List.append_inj h (by rw [outsG_len, outsG_len])
theorem cO_mono (w v : List Int) : cO N O w ≤ cO N O (w ++ v) := count_le fun s t _ _ h => (outK_of h).1
theorem cE_mono (w v : List Int) : cE N O (w ++ v) ≤ cE N O w := count_le fun s t _ _ h => by
 unfold endK at *
 simp only [Prod.mk.injEq] at h ⊢
 rw [outs_app, outs_app, leadG_append, leadG_append, h.1, h.2]
 exact ⟨rfl, rfl⟩
theorem cO_le_cE (w : List Int) : cO N O w ≤ cE N O w := count_le fun s t _ _ h => by
 unfold endK at h
 exact (Prod.mk.inj h).1
theorem cE_zero : cE N O [] ≤ N.length := cntF_le _ _
theorem cO_zero (h : 1 ≤ N.length) : 1 ≤ cO N O [] := by
 unfold cO
 have h1 := cntF_mono (keyE (outK N O [])) h
 have : cntF (keyE (outK N O [])) 1 = 1 := by simp [cntF, isF]
 omega
theorem pot_lt {w v : List Int} {s t : Nat} (hs : s < N.length) (ht : t < N.length) (ho : outsG N O s w = outsG N O t w) (hne : leadG N s w ≠ leadG N t w)
  (hd : outsG N O (leadG N s w) v ≠ outsG N O (leadG N t w) v ∨ leadG N (leadG N s w) v = leadG N (leadG N t w) v) : cE N O (w ++ v) - cO N O (w ++ v) < cE N O w - cO N O w := by
 have a1 := cO_mono (N := N) (O := O) w v
 have a2 := cE_mono (N := N) (O := O) w v
 have a3 := cO_le_cE (N := N) (O := O) (w ++ v)
 have a4 := cO_le_cE (N := N) (O := O) w
 by_cases e : outsG N O (leadG N s w) v = outsG N O (leadG N t w) v
 ·-- merged
  have hm := hd.resolve_left fun g => g e
  have : cE N O (w ++ v) ≠ cE N O w := fun h => by
   have := (same_count (f := endK N O w) (g := endK N O (w ++ v)) (n := N.length) (fun s t _ _ h => by
    unfold endK at *
    simp only [Prod.mk.injEq] at h ⊢
    rw [outs_app, outs_app, leadG_append, leadG_append, h.1, h.2]
    exact ⟨rfl, rfl⟩) h.symm s t hs ht).2 (by
     unfold endK
     rw [outs_app, outs_app, leadG_append, leadG_append, ho, e, hm])
   unfold endK at this
   exact hne (Prod.mk.inj this).2
  omega
 ·have : cO N O w ≠ cO N O (w ++ v) := fun h => by
   have := (same_count (f := outK N O (w ++ v)) (g := outK N O w) (n := N.length) (fun s t _ _ h => (outK_of h).1) h.symm s t hs ht).2 ho
   exact e (outK_of this).2
  omega
end Go.AM
end

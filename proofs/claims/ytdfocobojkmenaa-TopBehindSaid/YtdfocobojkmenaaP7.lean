/-
  Plain facts on the minimal machine and on words that tell its states apart; no program in sight.
-/
import Derived.Test.YtdfocobojkmenaaP3
import Derived.Test.YtdfocobojkmenaaP4
set_option linter.unusedVariables false
set_option linter.unusedSimpArgs false
set_option linter.unusedSectionVars false
set_option linter.unnecessarySimpa false

/-! text PlMinim -/
section
namespace Go.AM
open Go
/-! the minimal machine -/
section
variable {N O : List (List Int)} {k : Nat}
theorem cls_step (hV : VM N O k) {s t : Nat} (hs : s < N.length) (ht : t < N.length) (h : atC (clsT N O k) s = atC (clsT N O k) t) {x : Nat} (hx : x < k) :
    outG O s x = outG O t x ∧ atC (clsT N O k) (nxG N s x).toNat = atC (clsT N O k) (nxG N t x).toNat := by
  obtain ⟨i, _, h2, h3⟩ := hV.cm.stop (O := O)
  have h4 : atC (clsI N O k (i + 1)) s = atC (clsI N O k (i + 1)) t := by rw [h3, h2]; exact h
  rw [clsI_succ hs ht, kF_eq, h2] at h4
  exact h4 x hx
theorem minN_get {c : Nat} (h : c < cntT N O k) : (minN N O k).getD c [] = rowN N O k (repC N O k c) := by simp [minN, List.getD, h]
theorem minO_get {c : Nat} (h : c < cntT N O k) : (minO N O k).getD c [] = O.getD (repC N O k c) [] := by simp [minO, List.getD, h]
theorem rowN_get (hV : VM N O k) {s x : Nat} (hs : s < N.length) (hx : x < k) : (rowN N O k s).getD x 0 = atC (clsT N O k) (nxG N s x).toNat := by
  have h1 := (hV.v.row _ (getD_mem' hs)).1
  have h2 : x < (N.getD s []).length := by omega
  unfold rowN atC nxG
  simp only [Int.toNat_natCast]
  generalize N.getD s [] = r at h2
  simp [List.getD, h2]
theorem min_st (hV : VM N O k) {s : Nat} (hs : s < N.length) : ∃ d, d < cntT N O k ∧ atC (clsT N O k) s = (d : Int) ∧ repC N O k d < N.length ∧ atC (clsT N O k) (repC N O k d) = atC (clsT N O k) s := by
  obtain ⟨h1, h2⟩ := cls_rng (N := N) (O := O) (k := k) hs
  have h3 : (atC (clsT N O k) s).toNat < cntT N O k := by omega
  have h4 := repC_ok h3
  exact ⟨_, h3, by omega, h4.1, by rw [h4.2.2.2]; omega⟩
theorem nx_min (hV : VM N O k) {s x : Nat} (hs : s < N.length) (hx : x < k) : nxG (minN N O k) (atC (clsT N O k) s) x = atC (clsT N O k) (nxG N s x).toNat := by
  obtain ⟨d, h1, h2, h3, h4⟩ := min_st hV hs
  have h5 := (cls_step hV h3 hs h4 hx).2
  rw [← h5, ← rowN_get hV h3 hx, ← minN_get h1, h2]
  simp [nxG]
theorem out_min (hV : VM N O k) {s x : Nat} (hs : s < N.length) (hx : x < k) : outG (minO N O k) (atC (clsT N O k) s) x = outG O s x := by
  obtain ⟨d, h1, h2, h3, h4⟩ := min_st hV hs
  have h5 := (cls_step hV h3 hs h4 hx).1
  rw [← h5, h2]
  unfold outG
  simp only [Int.toNat_natCast]
  rw [minO_get h1]
theorem outs_min (hV : VM N O k) : ∀ (w : List Int) {s : Nat}, s < N.length → (∀ c ∈ w, 0 ≤ c ∧ c < k) → outsG (minN N O k) (minO N O k) (atC (clsT N O k) s) w = outsG N O s w
  | [], _, _, _ => rfl
  | x :: w, s, hs, hw => by
    obtain ⟨h0, h1⟩ := hw x (by simp)
    have hx : x.toNat < k := by omega
    have h2 := out_min hV hs hx
    have h3 := nx_min hV hs hx
    rw [outG_nat, outG_nat] at h2
    rw [nxG_nat, nxG_nat] at h3
    have h4 := hV.cm.nat hs hx
    rw [nxG_nat] at h4
    have h5 := outs_min hV w h4 fun c hc => hw c (by simp [hc])
    rw [outsG_st] at h5
    simp only [outsG, h2, h3, h5]
theorem cnt_pos (hV : VM N O k) : 1 ≤ cntT N O k := by
  have := hV.v.n1
  have := cls_rng (N := N) (O := O) (k := k) (s := 0) (by omega)
  omega
theorem min_vm (hV : VM N O k) : VM (minN N O k) (minO N O k) k := by
  have h1 : cntT N O k ≤ N.length := cntI_le _
  have h2 := hV.v.n2
  have h3 := cnt_pos hV
  have e1 : (minN N O k).length = cntT N O k := by simp [minN]
  have e2 : (minO N O k).length = cntT N O k := by simp [minO]
  refine ⟨⟨by omega, by omega, hV.v.k1, hV.v.k2, fun r hr => ?_⟩, by omega, fun r hr => ?_⟩
  · obtain ⟨c, hc, rfl⟩ := List.mem_map.1 hr
    have h4 := (repC_ok (N := N) (O := O) (k := k) (List.mem_range.1 hc)).1
    have h5 := hV.v.row _ (getD_mem' h4)
    refine ⟨by rw [rowN, List.length_map]; exact h5.1, fun t ht => ?_⟩
    obtain ⟨u, hu, rfl⟩ := List.mem_map.1 ht
    have h6 := h5.2 u hu
    have h7 := cls_rng (N := N) (O := O) (k := k) (s := u.toNat) (by omega)
    rw [e1]; exact h7
  · obtain ⟨c, hc, rfl⟩ := List.mem_map.1 hr
    have h4 := (repC_ok (N := N) (O := O) (k := k) (List.mem_range.1 hc)).1
    exact hV.orow _ (getD_mem' (by have := hV.ol; omega))
theorem minA_len : (minN N O k).length = cntT N O k := by simp [minN]
theorem cntF_all {E : Nat → Nat → Bool} : ∀ {n : Nat}, (∀ s, s < n → isF E s = true) → cntF E n = n
  | 0, _ => rfl
  | n + 1, h => by rw [cntF, cntF_all fun s hs => h s (by omega), h n (by omega)]; rfl
/-- a state and its class are told apart by no word -/
theorem TellR.min (hV : VM N O k) {s : Nat} (hs : s < N.length) {w : List Int} {b : Bool} (h : TellR N O (minN N O k) (minO N O k) s (atC (clsT N O k) s) k w b) : b = false := by
  cases b with
  | false => rfl
  | true =>
    have h1 := cls_rng (N := N) (O := O) (k := k) hs
    obtain ⟨h2, _, h3, _⟩ := h.first hV (min_vm hV) ⟨by omega, by omega⟩ ⟨h1.1, by rw [minA_len]; exact h1.2⟩
    exact absurd (outs_min hV w hs h2).symm h3
/-- states are told apart if and only if their classes are two -/
theorem TellR.cls (hV : VM N O k) {x y : Int} (hx : 0 ≤ x ∧ x < N.length) (hy : 0 ≤ y ∧ y < N.length) {w : List Int} {b : Bool} (h : TellR N O N O x y k w b) : b = false ↔ atC (clsT N O k) x.toNat = atC (clsT N O k) y.toNat := by
  rw [hV.cm.iff (by omega) (by omega)]
  have e1 : ((x.toNat : Nat) : Int) = x := by omega
  have e2 : ((y.toNat : Nat) : Int) = y := by omega
  rw [e1, e2]
  cases b with
  | false => exact ⟨fun _ => h.none hV hV hx hy, fun _ => rfl⟩
  | true =>
    obtain ⟨h2, _, h3, _⟩ := h.first hV hV hx hy
    exact ⟨fun g => (by cases g), fun g => absurd (g w h2) h3⟩
end
end Go.AM
end

/-! text PlApart -/
section
namespace Go.AM
open Go
theorem cntF_full {E : Nat → Nat → Bool} (n : Nat) : cntF E n = n → ∀ s, s < n → isF E s = true := by
  induction n with
  | zero => intro _ s hs; omega
  | succ n ih =>
    intro h s hs
    have h1 := cntF_le E n
    have h2 : cntF E (n + 1) = cntF E n + (if isF E n then 1 else 0) := rfl
    have h3 : isF E n = true := by
      cases e : isF E n with
      | true => rfl
      | false => rw [e] at h2; simp at h2; omega
    rw [h3] at h2
    simp at h2
    by_cases e : s = n
    · rw [e]; exact h3
    · exact ih (by omega) s (by omega)
variable {N O : List (List Int)} {k : Nat}
/-- in a minimal machine no two states have the same class -/
theorem fit_dist (h : cntT N O k = N.length) {s t : Nat} (hs : s < N.length) (ht : t < N.length) (he : atC (clsT N O k) s = atC (clsT N O k) t) : s = t := by
  have hc : cntF (clE N O k) N.length = N.length := h
  have hF := cntF_full _ hc
  rcases Nat.lt_trichotomy s t with hlt | rfl | hlt
  · exact absurd he.symm (isF_iff.1 (hF t ht) s hlt)
  · rfl
  · exact absurd he (isF_iff.1 (hF s hs) t hlt)
theorem least {P : Nat → Prop} : ∀ n, P n → ∃ m, m ≤ n ∧ P m ∧ ∀ j, j < m → ¬ P j := by
  intro n
  induction n using Nat.strongRecOn with
  | _ n ih =>
    intro h
    by_cases e : ∃ j, j < n ∧ P j
    · obtain ⟨j, hj, hp⟩ := e
      obtain ⟨m, h1, h2, h3⟩ := ih j hj hp
      exact ⟨m, by omega, h2, h3⟩
    · exact ⟨n, Nat.le_refl _, h, fun j hj hp => e ⟨j, hj, hp⟩⟩
theorem tell_ex (N O M Q : List (List Int)) (x y : Int) (k : Nat) : ∃ w ok, TellR N O M Q x y k w ok := by
  by_cases h : ∃ i c, i < (finP N M x y k).1.length ∧ c < k ∧ difP O Q ((finP N M x y k).1.getD i (x, y)) c
  · obtain ⟨i, hi⟩ := h
    obtain ⟨i, _, ⟨c, h1, h2, h3⟩, h4⟩ := least (P := fun i => ∃ c, i < (finP N M x y k).1.length ∧ c < k ∧ difP O Q ((finP N M x y k).1.getD i (x, y)) c) i hi
    obtain ⟨c, h5, h6, h7⟩ := least (P := fun c => difP O Q ((finP N M x y k).1.getD i (x, y)) c) c h3
    exact ⟨_, _, .inl ⟨i, c, h1, by omega, h6, fun c' hc' => h7 c' hc', fun j c' hj hc' hd => h4 j hj ⟨c', by omega, hc', hd⟩, rfl, rfl⟩⟩
  · exact ⟨_, _, .inr ⟨fun j c' hj hc' hd => h ⟨j, c', hj, hc', hd⟩, rfl, rfl⟩⟩
/-- every two states are told apart -/
theorem tel_tells (hV : VM N O k) (hc : cntT N O k = N.length) {s t : Nat} (hts : t < s) (hs : s < N.length) : ∃ w ∈ telL N O k, outsG N O s w ≠ outsG N O t w := by
  obtain ⟨w, ok, hT⟩ := tell_ex N O N O t s k
  have hw := tellW_eq hT
  have hok : ok = true := by
    cases ok with
    | true => rfl
    | false =>
      have := (hT.cls hV ⟨by omega, by omega⟩ ⟨by omega, by omega⟩).1 rfl
      rw [Int.toNat_natCast, Int.toNat_natCast] at this
      have := fit_dist hc (by omega) hs this
      omega
  subst hok
  obtain ⟨_, _, h3, _⟩ := hT.first hV hV ⟨by omega, by omega⟩ ⟨by omega, by omega⟩
  refine ⟨w, ?_, fun e => h3 e.symm⟩
  rw [telL, if_neg (by omega), mem_onceL, hw]
  exact List.mem_map.2 ⟨(t, s), mem_prs.2 ⟨hts, hs⟩, rfl⟩
end Go.AM
end

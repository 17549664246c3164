/-
  The suite finds every fault: plain facts; conditions in each statement.
-/
import Derived.Test.YtdfocobojkmenaaS12
import Derived.Test.YtdfocobojkmenaaP8
import Derived.Test.YtdfocobojkmenaaP5
set_option linter.unusedVariables false
set_option linter.unusedSimpArgs false
set_option linter.unusedSectionVars false
set_option linter.unnecessarySimpa false

/-! text Uk38 -/
section
namespace Go.AM
open Go Go.Proofs Go.Sort
theorem mem_midW {k : Nat} : ∀ {f : Nat} {w p : List Int}, p ∈ midW k f w ↔ ∃ v : List Int, v.length ≤ f ∧ (∀ z ∈ v, 0 ≤ z ∧ z < k) ∧ p = w ++ v
  | 0, w, p => by
    simp only [midW, List.mem_singleton]
    constructor
    · rintro rfl; exact ⟨[], by simp, by simp, by simp⟩
    · rintro ⟨v, hv, _, rfl⟩
      have : v = [] := List.length_eq_zero_iff.1 (by omega)
      rw [this, List.append_nil]
  | f + 1, w, p => by
    simp only [midW, List.mem_cons, List.mem_flatMap, List.mem_range]
    constructor
    · rintro (rfl | ⟨x, hx, hp⟩)
      · exact ⟨[], by simp, by simp, by simp⟩
      · obtain ⟨v, hv, hl, rfl⟩ := mem_midW.1 hp
        refine ⟨(x : Int) :: v, by simpa using hv, fun z hz => ?_, by simp⟩
        rcases List.mem_cons.1 hz with rfl | hz
        · omega
        · exact hl z hz
    · rintro ⟨v, hv, hl, rfl⟩
      cases v with
      | nil => left; simp
      | cons y v =>
        right
        have hy := hl y (by simp)
        refine ⟨y.toNat, by omega, mem_midW.2 ⟨v, by simpa using hv, fun z hz => hl z (by simp [hz]), ?_⟩⟩
        rw [show ((y.toNat : Nat) : Int) = y by omega]; simp
theorem suf_mem {N O : List (List Int)} {k e : Nat} (hV : VM N O k) (hAll : allC N k = true) {p : List Int} (h : p ∈ sufL N O k e) : (∀ z ∈ p, 0 ≤ z ∧ z < k) ∧ p.length ≤ 3661 + e := by
  obtain ⟨u, hu, v, hv, w, hw, rfl⟩ := mem_wB.1 h
  obtain ⟨a1, a2⟩ := covL_mem hV hAll hu
  obtain ⟨b1, b2⟩ := midW_mem _ [] (by simp) v hv
  obtain ⟨c1, c2⟩ := telL_mem hV hw
  refine ⟨fun z hz => ?_, ?_⟩
  · rcases List.mem_append.1 hz with hz | hz
    · rcases List.mem_append.1 hz with hz | hz
      · exact a1 z hz
      · exact b1 z hz
    · exact c1 z hz
  · rw [List.length_append, List.length_append]
    simp at b2; omega
theorem tel_some {N O : List (List Int)} {k : Nat} (hV : VM N O k) (hC : cntT N O k = N.length) : ∃ t, t ∈ telL N O k := by
  by_cases h1 : N.length = 1
  · exact ⟨[], by rw [telL, if_pos h1]; simp⟩
  · have hn := hV.v.n1
    obtain ⟨t, ht, _⟩ := tel_tells hV hC (s := 1) (t := 0) (by omega) (by omega)
    exact ⟨t, ht⟩
theorem pre_suf {N O : List (List Int)} {k e : Nat} {p t : List Int} (hp : isPre N k (e + 1) p) (ht : t ∈ telL N O k) : p ++ t ∈ sufL N O k e := by
  obtain ⟨s, v, h1, h2, h3, rfl⟩ := hp
  have hcl : (covL N k).length = N.length := cov_len
  exact mem_wB.2 ⟨_, by rw [List.getD_eq_getElem?_getD, List.getElem?_eq_getElem (by omega)]; exact List.getElem_mem _, v, mem_midW.2 ⟨v, h2, h3, by simp⟩, t, ht, rfl⟩
/-- the suite finds every fault (Vasilevskii, Chow) -/
theorem suite_finds {N O M Q : List (List Int)} {k e : Nat} (hN : VM N O k) (hM : VM M Q k) (hA : allC N k = true) (hC : cntT N O k = N.length) (hl : M.length ≤ N.length + e) : passB N O M Q (onceL (sufL N O k e)) = true ↔ ∀ w : List Int, (∀ x ∈ w, 0 ≤ x ∧ x < k) → outsG N O 0 w = outsG M Q 0 w := by
  rw [passB, List.all_eq_true]
  constructor
  · intro h w hw
    exact suite_enough hN hM hA hC hl (tel_some hN hC) (fun p t hp ht => of_decide_eq_true (h _ (mem_onceL.2 (pre_suf hp ht)))) w hw
  · intro h p hp
    exact decide_eq_true (h p (suf_mem hN hA (mem_onceL.1 hp)).1)
theorem suite_tells {N O M Q : List (List Int)} {k e : Nat} (hN : VM N O k) (hM : VM M Q k) (hA : allC N k = true) (hC : cntT N O k = N.length) (hl : M.length ≤ N.length + e) {w : List Int} {ok : Bool} (h : TellR N O M Q 0 0 k w ok) : passB N O M Q (onceL (sufL N O k e)) = !ok := by
  have hn := hN.v.n1
  have hm := hM.v.n1
  have hf := suite_finds hN hM hA hC hl
  cases ok with
  | false =>
    exact hf.2 (h.none hN hM ⟨by omega, by omega⟩ ⟨by omega, by omega⟩)
  | true =>
    obtain ⟨h1, _, h2, _⟩ := h.first hN hM ⟨by omega, by omega⟩ ⟨by omega, by omega⟩
    cases hp : passB N O M Q (onceL (sufL N O k e)) with
    | false => rfl
    | true => exact absurd (hf.1 hp w h1) h2
end Go.AM
end
